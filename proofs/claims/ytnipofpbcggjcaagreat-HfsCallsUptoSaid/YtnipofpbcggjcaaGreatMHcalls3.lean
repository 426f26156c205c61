/-
  PROVED HERE: lemmas and contracts of functions (texts of this repo, joined; what the claim does not use is left out): GO, GEnter, GR, GRead, GP, GRef, GW, GFb, GFc, Cn, ShelfS, SK, HG, GOk, Nw, Il, Rt, Sr, Sd, Dl, HW, Ib, DR, DT, Dp, DP, Dm, Do, Vp, Vu.
  CONDITIONS: as the theorems say.
-/
import Derived.Test.YtnipofpbcggjcaaGreatMHcalls2
import Derived.Shelf.SlGeneric
import Derived.Shelf.SlIter.Nil
import Derived.Shelf.SortM.Plain
import Derived.Shelf.SortM.SortNone
import Derived.Ground.GgzProg
import Derived.Ground.SlgmProg
import Derived.Test.YtnipofpbcggjcaaGreatProg
set_option maxRecDepth 100000
set_option maxHeartbeats 4000000
namespace Go.Proofs.YtnipofpbcggjcaaGreat
section
open Go.RowKit Go.WideShapes Go.ChangeShapes Go.ChangeAt Go.Deep
abbrev B0 (W:World):Bs:=⟨(· < W.heap.size),W⟩
theorem WI {w:World} {a:Addr} {v:Value} (h:w.cell? a=some v):a.block < w.heap.size:=by
  unfold World.cell? at h
  grind
theorem Qd {w:World} {a:Addr} {v:Value} (h:w.cell? a=some v):a.spot=none:=by
  unfold World.cell? at h
  split at h
  ·split at h
   ·cases h
   rename_i h0
   cases hs:a.spot with
   | none=>rfl
   | some x=>rw [hs] at h0;exact absurd rfl h0
  cases h
theorem add_plain {a:Addr} (k:Nat) (h:a.spot=none):a.add k=⟨a.block,a.off+k,none⟩:=by
  obtain⟨b,o,s⟩:=a
  cases h
  unfold Addr.add
  split
  ·rename_i h0;subst h0;rfl
  rfl
theorem Df {H:Type} {D:Nat->DataW H} {n i:Nat} (hi:i < n):Rows.uptoBulk (D i)<=Rows.uptoBulkAll ((List.range n).map D):=by
  have hm:D i∈(List.range n).map D:=by grind
  generalize (List.range n).map D=l at hm
  induction l with
  | nil=>cases hm
  | cons x r ih=>
    simp only [Rows.uptoBulkAll]
    grind
theorem Tz {H:Type} (d:DataW H):1<=Rows.uptoBulk d:=by
  cases d with
  | lit l=>cases l<;>simp [Rows.uptoBulk]
  | nil=>simp [Rows.uptoBulk]
  | ptr d=>simp [Rows.uptoBulk]
  | slice elems spare=>simp [Rows.uptoBulk]
  | agg parts=>simp [Rows.uptoBulk]
  | iface t d=>simp [Rows.uptoBulk]
  | map entries=>simp [Rows.uptoBulk]
  | held h=>simp [Rows.uptoBulk]
theorem yB {H:Type} (l:List (DataW H)):l.length<=Rows.uptoBulkAll l:=by
  induction l with
  | nil=>simp [Rows.uptoBulkAll]
  | cons x r ih=>have:=Tz x;simp only [Rows.uptoBulkAll,List.length_cons];omega
theorem bulk_mem {H:Type} {d:DataW H} {l:List (DataW H)} (h:d∈l):Rows.uptoBulk d<=Rows.uptoBulkAll l:=by
  induction l with
  | nil=>cases h
  | cons x r ih=>
    simp only [Rows.uptoBulkAll]
    grind
section open_
variable {H:Type} {enc:TypeId×Value->H} {P:Program} {W:World} {sp:Nat->Bool}
theorem yC {α:Type} [Inhabited α] {t e:TypeId} {size:Nat} {f:α->List Value} {Q:α->DataW H->Prop} (ht:P.underlying t=some (.slice e)) (hC:P.cellsOf e=size) (h0:0 < size)
    (hel:∀ n cs x,DataW.trod enc P W 0 sp true n e cs=some x->∃ a,cs=f a/\Q a x.1) (hf:∀ a,(f a).length=size)
    {fuel:Nat} {cs:List Value} {x:DataW H×List MemPlace} (h:DataW.trod enc P W 0 sp true fuel t cs=some x) :
    ∃ A c,∃ xs:List α,∃ D:Nat->DataW H,cs=[.slice A xs.length c]/\xs.length<=c/\c<=maxLen/\bT (B0 W) A (eY (fun _ a=>f a) 0 xs)/\(∀ i,i < xs.length->Q (xs.getD i default) (D i)) ∧
      Rows.uptoBulkAll ((List.range xs.length).map D)+1<=Rows.uptoBulk x.1:=by
  rcases open_slice ht h with ⟨hv,hx⟩|⟨a,len,cap,m,n,D,Pl,hcs,hb,hl,hm,hmm,hx,hi⟩
  ·subst hv
   refine⟨none,0,[],fun _=>.nil,rfl,Nat.le_refl _,Nat.zero_le _,fun j v hj=>by simp [eY] at hj,fun i hi=>absurd hi (Nat.not_lt_zero i),?_⟩
   rw [hx]
   simp [Rows.uptoBulk,Rows.uptoBulkAll]
  have hlm:len<=m:=by rw [hmm];split<;>omega
  have hch:∀ i,∃ b:α,i < len->(W.cells? 0 (a.add (i * P.cellsOf e)) (P.cellsOf e)=some (f b)/\Q b (D i)):=fun i=>by
    by_cases hil:i < len
    ·obtain⟨cs',h1,h2⟩:=hi i (by omega)
     grind
    exact⟨default,fun h=>absurd h hil⟩
  have hg:=fun i=>Classical.choose_spec (hch i)
  generalize hG:(fun i=>Classical.choose (hch i))=g at hg
  have hg:∀ i,i < len->W.cells? 0 (a.add (i * P.cellsOf e)) (P.cellsOf e)=some (f (g i))/\Q (g i) (D i):=fun i hi=>by
    grind
  have hlen:((List.range len).map g).length=len:=by simp
  have hget:∀ i,i < len->((List.range len).map g)[i]?=some (g i):=fun i hi=>by simp [hi]
  have abW:∀ i,i < len->((List.range len).map g).getD i default=g i:=by grind
  have hs1:0 < len->a.spot=none:=fun hl0=>by
    obtain⟨h2,-⟩:=hg 0 hl0
    rw [hC] at h2
    obtain⟨_,hcl,hat⟩:=World.cells?_some h2
    have h3:=hat 0 h0
    rw [List.getElem?_eq_getElem (by rw [hcl];exact h0)] at h3
    have e:(a.add (0 * size)).add 0=a:=by rw [Nat.zero_mul];rfl
    rw [e] at h3
    exact Qd h3
  refine⟨some a,cap,(List.range len).map g,D,by rw [hlen];exact hcs,by rw [hlen];exact hl,hm,fun j v hj=>?_,fun i hi'=>?_,?_⟩
  ·have hfl:=wh (f:=fun _ a=>f a) (s:=size) (fun _ a=>hf a) ((List.range len).map g) 0
   have hjl:=bR hj
   rw [hfl,hlen] at hjl
   have rX:j / size < len:=(Nat.div_lt_iff_lt_mul h0).2 hjl
   have hj2:j % size < size:=Nat.mod_lt _ h0
   have e:=Nat.div_add_mod j size
   rw [Nat.mul_comm] at e
   have h1:=qU (f:=fun _ a=>f a) (s:=size) (fun _ a=>hf a) _ 0 _ (j % size) _ (hget _ rX) hj2
   rw [e,hj] at h1
   obtain⟨h2,-⟩:=hg _ rX
   rw [hC] at h2
   obtain⟨_,_,hat⟩:=World.cells?_some h2
   have h3:=hat _ hj2
   rw [← h1] at h3
   have hs1:=hs1 (Nat.lt_of_le_of_lt (Nat.zero_le _) rX)
   rw [add_plain _ hs1] at h3
   rw [add_plain (a:=⟨a.block,a.off+j / size * size,none⟩) _ rfl] at h3
   have e2:a.off+j / size * size+j % size=a.off+j:=by omega
   have h4:W.cell? ⟨a.block,a.off+j,none⟩=some v:=by rw [← e2];exact h3
   have ea:(some a:Option Addr)=some ⟨aP (some a),aO (some a),none⟩:=by
     obtain⟨b,o,s⟩:=a
     cases hs1
     rfl
   exact⟨ea,WI h4,h4⟩
  ·grind
  rw [hx,hlen]
  simp only [Rows.uptoBulk]
  omega
theorem WJ {t:TypeId} {n:Nat} {cs:List Value} {x:DataW H×List MemPlace} (ht:P.underlying t=some (.int .u8)) (h:DataW.trod enc P W 0 sp true n t cs=some x):∃ b:UInt8,cs=[BA b]/\True:=by
  obtain⟨z,h1,_,h3⟩:=DataW.trod_int ht h
  have h4:0<=z/\z<=255:=by simpa [Lit.wf,IntKind.min,IntKind.max,IntKind.signed,IntKind.bits] using h3
  refine⟨UInt8.ofNat z.toNat,?_,trivial⟩
  have e:(((UInt8.ofNat z.toNat).toNat:Nat):Int)=z:=by
    rw [UInt8.toNat_ofNat']
    omega
  rw [BA,e]
  exact h1
def ur (z:Int):Prop:=-9223372036854775808<=z/\z<=9223372036854775807
theorem jX {t:TypeId} {n:Nat} {c:Value} {x:DataW H×List MemPlace} (ht:P.underlying t=some (.int .i64)) (h:DataW.trod enc P W 0 sp true n t [c]=some x):∃ z,c=.int .i64 z/\ur z:=by
  obtain⟨z,h1,_,h3⟩:=DataW.trod_int ht h
  cases h1
  exact⟨z,rfl,by unfold ur;simpa [Lit.wf,IntKind.min,IntKind.max,IntKind.signed,IntKind.bits] using h3⟩
theorem qL {t:TypeId} {n:Nat} {c:Value} {x:DataW H×List MemPlace} (ht:P.underlying t=some .string) (h:DataW.trod enc P W 0 sp true n t [c]=some x):∃ s:ByteArray,c=.string s/\s.size+1<=Rows.uptoBulk x.1:=by
  obtain⟨s,h1,h2,_⟩:=DataW.trod_string ht h
  cases h1
  refine⟨s,rfl,?_⟩
  rw [h2]
  simp only [Rows.uptoBulk,Array.length_toList]
  exact Nat.le_refl _
end open_
section graph
variable {H:Type} {enc:TypeId×Value->H} {W:World} {sp:Nat->Bool}
theorem Ei:∀ (d:List UInt8) (k:Nat),eY (fun _ b=>[BA b]) k d=cE d
  | [],_=>rfl
  | b::r,k=>by rw [eY,Ei r (k+1)];rfl
theorem Ej {n:Nat} {c:Value} {x:DataW H×List MemPlace} (h:DataW.trod enc Tryz.prog W 0 sp true n 51 [c]=some x) :
    ∃ A cp,∃ d:List UInt8,c=.slice A d.length cp/\aZ (B0 W) A d/\d.length+1<=Rows.uptoBulk x.1:=by
  obtain⟨A,cp,xs,D,h1,_,_,h2,_,h3⟩:=yC (α:=UInt8) (f:=fun b=>[BA b]) (Q:=fun _ _=>True) Tryz.underlying51 (size:=1) (by kernel_rfl) (by decide) (fun n cs x h=>WJ Tryz.underlying5 h) (fun _=>rfl) h
  cases h1
  have:=yB ((List.range xs.length).map D)
  refine⟨A,cp,xs,rfl,?_,by simp at this;omega⟩
  rw [Ei] at h2
  exact h2
structure NU (e:cW) (b:Nat):Prop where
  id:ur e.id
  name:e.name.size+1<=b
theorem bh {n:Nat} {cs:List Value} {xs:List (DataW H×List MemPlace)} {i:Nat} {t:TypeId} (h:DataW.trod enc Tryz.prog W 0 sp true n t cs=xs[i]?) (hi:i < xs.length):DataW.trod enc Tryz.prog W 0 sp true n t cs=some xs[i]/\Rows.uptoBulk (xs[i]).1<=Rows.uptoBulk (.agg (xs.map (·.1))):=by
  refine⟨h.trans (List.getElem?_eq_getElem hi),?_⟩
  have hm:(xs[i]).1∈xs.map (·.1):=by grind
  have:=bulk_mem hm
  simp only [Rows.uptoBulk]
  omega
theorem TA {n:Nat} {cs:List Value} {x:DataW H×List MemPlace} (h:DataW.trod enc Tryz.prog W 0 sp true n 68 cs=some x):∃ e:cW,cs=CQ e/\NU e (Rows.uptoBulk x.1):=by
  obtain⟨ys,m,_,hx,hl,qv,hf⟩:=DataW.trod_struct Tryz.underlying68 h
  have hC:Tryz.prog.cellsOf 68=2:=by kernel_rfl
  rw [hC] at hl
  match cs,hl with
  | [c0,c1],_=>
    obtain⟨h0,b0⟩:=bh (hf 0 _ rfl) (by rw [qv];decide)
    obtain⟨h1,_⟩:=bh (hf 1 _ rfl) (by rw [qv];decide)
    obtain⟨s,rfl,hs⟩:=qL Tryz.underlying9 h0
    obtain⟨z,rfl,hz⟩:=jX Tryz.underlying3 h1
    exact⟨⟨s,z⟩,rfl,⟨hz,by rw [hx];exact Nat.le_trans hs b0⟩⟩
theorem Qe {n:Nat} {c:Value} {x:DataW H×List MemPlace} (h:DataW.trod enc Tryz.prog W 0 sp true n 64 [c]=some x) :
    ∃ A cp,∃ es:List cW,c=.slice A es.length cp/\bg (B0 W) A es/\es.length+1<=Rows.uptoBulk x.1/\∀ i,i < es.length->NU (en es i) (Rows.uptoBulk x.1):=by
  obtain⟨A,cp,xs,D,h1,_,_,h2,h4,h3⟩:=yC (α:=cW) (f:=CQ) (Q:=fun e d=>NU e (Rows.uptoBulk d)) Tryz.underlying64 (size:=2) (by kernel_rfl) (by decide) (fun n cs x h=>TA h) (fun _=>rfl) h
  cases h1
  have h5:=yB ((List.range xs.length).map D)
  refine⟨A,cp,xs,rfl,h2,by simp at h5;omega,fun i hi=>⟨(h4 i hi).id,?_⟩⟩
  have h6:=(h4 i hi).name
  have h7:=Df (D:=D) hi
  unfold en
  omega
structure Vp (nd:aA) (b:Nat):Prop where
  ids:ur nd.id/\ur nd.kind/\ur nd.mode/\ur nd.uid/\ur nd.gid/\ur nd.sec/\ur nd.nano
  data:nd.data.length+1<=b
  target:nd.target.size+1<=b
  ah:nd.ah.length+1<=b
  ent:∀ i,i < nd.ah.length->NU (en nd.ah i) b
structure Ek where
  n:aA
  dA:Option Addr
  dC:Nat
  eA:Option Addr
  eC:Nat
deriving Inhabited
def X6 (a:Ek):List Value:=[.int .i64 a.n.id,.int .i64 a.n.kind,.int .i64 a.n.mode,.int .i64 a.n.uid,.int .i64 a.n.gid,.int .i64 a.n.sec,.int .i64 a.n.nano,.slice a.dA a.n.data.length a.dC,.string a.n.target,.slice a.eA a.n.ah.length a.eC]
structure Vq (W:World) (a:Ek) (b:Nat):Prop where
  nb:Vp a.n b
  data:aZ (B0 W) a.dA a.n.data
  ah:bg (B0 W) a.eA a.n.ah
theorem Qf {n:Nat} {cs:List Value} {x:DataW H×List MemPlace} (h:DataW.trod enc Tryz.prog W 0 sp true n 66 cs=some x):∃ a:Ek,cs=X6 a/\Vq W a (Rows.uptoBulk x.1):=by
  obtain⟨ys,m,_,hx,hl,qv,hf⟩:=DataW.trod_struct Tryz.underlying66 h
  have hC:Tryz.prog.cellsOf 66=10:=by kernel_rfl
  rw [hC] at hl
  match cs,hl with
  | [c0,c1,c2,c3,c4,c5,c6,c7,c8,c9],_=>
    obtain⟨h0,_⟩:=bh (hf 0 _ rfl) (by rw [qv];decide)
    obtain⟨h1,_⟩:=bh (hf 1 _ rfl) (by rw [qv];decide)
    obtain⟨h2,_⟩:=bh (hf 2 _ rfl) (by rw [qv];decide)
    obtain⟨h3,_⟩:=bh (hf 3 _ rfl) (by rw [qv];decide)
    obtain⟨h4,_⟩:=bh (hf 4 _ rfl) (by rw [qv];decide)
    obtain⟨h5,_⟩:=bh (hf 5 _ rfl) (by rw [qv];decide)
    obtain⟨h6,b6⟩:=bh (hf 6 _ rfl) (by rw [qv];decide)
    obtain⟨h7,b7⟩:=bh (hf 7 _ rfl) (by rw [qv];decide)
    obtain⟨h8,b8⟩:=bh (hf 8 _ rfl) (by rw [qv];decide)
    obtain⟨z0,rfl,w0⟩:=jX Tryz.underlying3 h0
    obtain⟨z1,rfl,w1⟩:=jX Tryz.underlying3 h1
    obtain⟨z2,rfl,w2⟩:=jX Tryz.underlying3 h2
    obtain⟨z3,rfl,w3⟩:=jX Tryz.underlying3 h3
    obtain⟨z4,rfl,w4⟩:=jX Tryz.underlying3 h4
    obtain⟨us,_,_,_,_,tR,hu⟩:=DataW.trod_struct Tryz.underlying26 h5
    obtain⟨g0,_⟩:=bh (hu 0 _ rfl) (by rw [tR];decide)
    obtain⟨g1,_⟩:=bh (hu 1 _ rfl) (by rw [tR];decide)
    obtain⟨z5,rfl,w5⟩:=jX (c:=c5) Tryz.underlying3 g0
    obtain⟨z6,rfl,w6⟩:=jX (c:=c6) Tryz.underlying3 g1
    obtain⟨A7,p7,d7,rfl,q7,l7⟩:=Ej (c:=c7) h6
    obtain⟨s8,rfl,l8⟩:=qL (c:=c8) Tryz.underlying9 h7
    obtain⟨A9,p9,e9,rfl,q9,l9,k9⟩:=Qe (c:=c9) h8
    rw [hx]
    exact⟨⟨⟨z0,z1,z2,z3,z4,z5,z6,d7,s8,e9⟩,A7,p7,A9,p9⟩,rfl,⟨⟨w0,w1,w2,w3,w4,w5,w6⟩,Nat.le_trans l7 b6,Nat.le_trans l8 b7,Nat.le_trans l9 b8,fun i hi=>⟨(k9 i hi).id,Nat.le_trans (k9 i hi).name b8⟩⟩,q7,q9⟩
structure lg (ns:List aA) (b:Nat):Prop where
  len:ns.length+1<=b
  node:∀ i,i < ns.length->Vp (nd ns i) b
theorem El (L:Lay):∀ (xs:List Ek) (k:Nat),(∀ i,i < xs.length->L.dA (k+i)=(xs.getD i default).dA/\L.dC (k+i)=(xs.getD i default).dC/\L.eA (k+i)=(xs.getD i default).eA/\L.eC (k+i)=(xs.getD i default).eC)->eY (fun _ a=>X6 a) k xs=eY (eT L) k (xs.map (·.n))
  | [],_,_=>rfl
  | a::r,k,h=>by
    obtain⟨h1,h2,h3,h4⟩:=h 0 (by simp)
    simp only [Nat.add_zero,List.getD_cons_zero] at h1 h2 h3 h4
    rw [eY,List.map_cons,eY,El L r (k+1) (fun i hi=>by
      have:=h (i+1) (by simp;omega)
      rw [List.getD_cons_succ] at this
      have e:k+(i+1)=k+1+i:=by omega
      rw [e] at this
      exact this)]
    rw [eT,h1,h2,h3,h4]
    rfl
theorem NV {n:Nat} {c:Value} {x:DataW H×List MemPlace} (h:DataW.trod enc Tryz.prog W 0 sp true n 22 [c]=some x) :
    ∃ A cp,∃ ns:List aA,∃ L:Lay,c=.slice A ns.length cp/\aB (B0 W) A ns L/\lg ns (Rows.uptoBulk x.1):=by
  obtain⟨A,cp,xs,D,h1,_,_,h2,h4,h3⟩:=yC (α:=Ek) (f:=X6) (Q:=fun a d=>Vq W a (Rows.uptoBulk d)) Tryz.underlying22 (size:=10) (by kernel_rfl) (by decide) (fun n cs x h=>Qf h) (fun _=>rfl) h
  cases h1
  have h5:=yB ((List.range xs.length).map D)
  have e:(xs.map (·.n)).length=xs.length:=by simp
  have hnd:∀ i,i < xs.length->nd (xs.map (·.n)) i=(xs.getD i default).n:=fun i hi=>by
    simp [nd,List.getD_eq_getElem?_getD,hi]
  refine⟨A,cp,xs.map (·.n),⟨fun i=>(xs.getD i default).dA,fun i=>(xs.getD i default).eA,fun i=>(xs.getD i default).dC,fun i=>(xs.getD i default).eC⟩,by rw [e],⟨?_,fun i hi=>?_,fun i hi=>?_⟩,by simp at h5;rw [e];omega,fun i hi=>?_⟩
  ·rw [El ⟨fun i=>(xs.getD i default).dA,fun i=>(xs.getD i default).eA,fun i=>(xs.getD i default).dC,fun i=>(xs.getD i default).eC⟩ xs 0 (fun i _=>by rw [Nat.zero_add];exact⟨rfl,rfl,rfl,rfl⟩)] at h2
   exact h2
  ·rw [e] at hi
   rw [hnd i hi]
   exact (h4 i hi).data
  ·rw [e] at hi
   rw [hnd i hi]
   exact (h4 i hi).ah
  rw [e] at hi
  rw [hnd i hi]
  have h7:=Df (D:=D) hi
  have h8:=(h4 i hi).nb
  exact⟨h8.ids,by have:=h8.data;omega,by have:=h8.target;omega,by have:=h8.ah;omega,fun j hj=>⟨(h8.ent j hj).id,by have:=(h8.ent j hj).name;omega⟩⟩
end graph
end
section
open Go.RowKit
attribute [local irreducible] ak aU af ai iB
theorem TB {β:Bs} (A:Option Addr) (ns:List aA) (L:Lay) (hG:aB β A ns L) (hr:bH ns) (i:Nat) (hi:i < ns.length) (hel:(nd ns i).ah.length<=1048576) (hwf:∀ j,j < (nd ns i).ah.length->-9223372036854775808<=(ent ns i j).id/\(ent ns i j).id<=9223372036854775807) (hnm:∀ j,j < (nd ns i).ah.length->(ent ns i j).name.size<=1048576)
    (mb mp:Nat) (ps:List (Nat×Nat)) (hpl:ps.length<=16777216) (hps:∀ p,p∈ps->p.1 < ns.length) (hnp:(ps.map Prod.fst).Nodup) :
    Spec Tryz.prog β 105 #[.pointer (some ⟨(aP A),aO A+i * 10,none⟩),.map (some mb),.map (some mp)] [.abs (bq Tryz.prog 3 mb (mf (bf A ns ns.length)) ns.length),.abs (bq Tryz.prog 3 mp (mf (pf ((ps).map (iQ ns)))) ((ps).length))] (fun v l=>(v=.bool true/\yq ns i ps/\l=[.abs (bq Tryz.prog 3 mb (mf (bf A ns ns.length)) ns.length),.abs (bq Tryz.prog 3 mp (mf (pf ((ez ns i (nd ns i).ah.length++ps).map (iQ ns)))) ((ez ns i (nd ns i).ah.length++ps).length))])\/(v=.bool false/\¬ yq ns i ps/\l=[])):=by
 refine SE Tryz.func105 Tryz.ntmps105 (fun R=>?_)
 refine SR (jK 1 [] [] ?_)
 refine NS (jK 1 [7] [] ?_)
 refine NN (af.seq (SR (jK 6 [16,17,18] [(3,r_ (aB.rd hG (i:=i) (by omega) (j:=9) rfl))] ?_)))
 refine NN (af.block ?_)
 refine lJ (fun (j:Nat)=>(j<=(nd ns i).ah.length)/\(∀ t,t < j->tu ns i t)/\(((ez ns i j++ps).map Prod.fst).Nodup)) (fun (j:Nat)=>(nd ns i).ah.length - j) (fun (j:Nat)=>[(0,.pointer (some ⟨(aP A),aO A+i * 10,none⟩)),(1,.map (some mb)),(2,.map (some mp)),(7,.string (o3 ns i j)),(16,.slice (L.eA i) ((nd ns i).ah.length) ((L.eC i))),(17,vI ↑((nd ns i).ah.length)),(18,vI ↑j)]) (fun (j:Nat)=>[.abs (bq Tryz.prog 3 mb (mf (bf A ns ns.length)) ns.length),.abs (bq Tryz.prog 3 mp (mf (pf ((ez ns i j++ps).map (iQ ns)))) ((ez ns i j++ps).length)),.abs R]) 0 [0,1,2] (⟨Nat.zero_le _,fun t ht=>absurd ht (Nat.not_lt_zero t),hnp⟩) ?_
 rintro j ⟨hj,hok,hnd⟩
 refine SR (jK 1 [19] [] ?_)
 refine NN (af.seq (cP ((((j:Nat):Int):Int) < ((((nd ns i).ah.length:Nat):Int):Int)) (fun Gy=>?_) (fun Gy=>?_)))
 ·refine af.skip (NX (af.seq (af.block (SR ?_))))
  refine jN 4 [9] (fun b1=>[(0,x_ j ((nd ns i).ah.length) (bg.hd (hG.ah i (by omega)) (i:=j) (by omega))),(1,p_ ⟨[.old (.string (en (nd ns i).ah j).name),.old (.int .i64 ((en (nd ns i).ah j).id))],none,none,none,none⟩ [(Rd β ⟨(aP (L.eA i)),aO (L.eA i)+j * 2+1,none⟩ (.int .i64 ((en (nd ns i).ah j).id))),(Rd β ⟨(aP (L.eA i)),aO (L.eA i)+j * 2,none⟩ (.string (en (nd ns i).ah j).name))] ⟨bg.rd (hG.ah i (by omega)) (i:=j) (by omega) (j:=1) rfl,bg.rd (hG.ah i (by omega)) (i:=j) (by omega) (j:=0) rfl,trivial⟩),(3,A_ 3 b1 2)]) (fun _=>[]) (fun b1=>.blk b1 [.string (en (nd ns i).ah j).name,vI ((en (nd ns i).ah j).id)] 68) (fun b1=>?_)
  refine NS (jK 3 [22,24] [(2,a_ 3 b1)] ?_)
  by_cases hat:0<=fP ns (en (nd ns i).ah j).id
  ·have htl:=kg hat
   refine ak.iY 0 (d:=(some 25)) (t:=135) (K:=3) (E:=169) (b:=mb) (n:=ns.length) (f:=(mf (bf A ns ns.length))) (x:=(.tmp 22)) (ix:=(.tmp 24)) (key:=.int .i64 ((en (nd ns i).ah j).id)) (z:=.pointer none) (kl:=(.int .i64 (en (nd ns i).ah j).id)) (r:=(some (.pointer (some ⟨(aP A),aO A+(tgt ns (en (nd ns i).ah j).id) * 10,none⟩)))) (fun _=>by kernel_rfl) (by kernel_rfl) (fun _=>by kernel_rfl) (fun _=>by kernel_rfl) gT Tryz.underlying135 (fun _=>by kernel_rfl) (sA (hwf j (by omega)).1 (hwf j (by omega)).2) (aad hat htl.1) ?_
   refine jK 1 [10] [] ?_
   refine NN (af.seq (SR (jK 5 [28,30] [(4,a_ 3 b1)] ?_)))
   refine gL [] (zW (en (nd ns i).ah j).name (hnm j (by omega))) ?_
   rintro _ _ ⟨rfl,rfl⟩
   refine jK 3 [34] [] ?_
   refine sN 34 (bO (en (nd ns i).ah j).name) (fun vD=>?_) (fun vD=>?_)
   ·refine jK 5 [39] [] ?_
    refine NN (CT (SR (jK 1 [6] [] ?_)))
    refine NN (af.ret (ai.aj (ai.au (ai.aj (ai.aj (ai.au (ai.aj ?_)))))))
    exact RT _ [2] (.inr ⟨rfl,fun h=>vD (h.ah j (by omega)).good,rfl⟩)
   refine jK 5 [39] [(1,a_ 3 b1),(3,p_ ⟨[],none,none,none,some (.bool (decide (eH ((en (nd ns i).ah j).name) (o3 ns i j))))⟩ [(Value.bool (Op.bytesLess (((en (nd ns i).ah j).name):ByteArray).toList (((o3 ns i j)):ByteArray).toList || (((en (nd ns i).ah j).name):ByteArray).toList == (((o3 ns i j)):ByteArray).toList))=(.bool (decide (eH ((en (nd ns i).ah j).name) (o3 ns i j))))] ⟨I6 _ _,trivial⟩)] ?_
   refine NN (cP (eH ((en (nd ns i).ah j).name) (o3 ns i j)) (fun qV=>?_) (fun qV=>?_))
   ·refine SR (jK 1 [6] [] ?_)
    refine NN (af.ret (ai.aj (ai.au (ai.aj (ai.aj (ai.au (ai.aj ?_)))))))
    exact RT _ [2] (.inr ⟨rfl,fun h=>(h.ah j (by omega)).ord qV,rfl⟩)
   refine af.skip (NX (SR (jK 3 [7] [(1,a_ 3 b1)] ?_)))
   refine NN (af.seq (SR (jK 5 [46] [(3,r_ (aB.rd hG (i:=(tgt ns (en (nd ns i).ah j).id)) (by omega) (j:=1) rfl))] ?_)))
   refine NN (cN (((nd ns (tgt ns (en (nd ns i).ah j).id)).kind:Int)=(2:Int)) (fun h46=>?_) (fun h46=>?_))
   ·refine af.exit (ai.aC (ai.aW (NX (af.region ?_))))
    refine ak.bM 1 (p':=.abs (bq Tryz.prog 3 mp (mf (pf ((ez ns i (j+1)++ps).map (iQ ns)))) ((ez ns i (j+1)++ps).length))) rfl (by rw [nK h46]) ?_
    refine jK 2 [18] [(0,wJ ((j:Int)+1) (↑(j+1)))] ?_
    refine NL ?_
    exact tJ ((j+1)) [0,1,2] (⟨by omega,fun t ht=>(by rcases Nat.lt_succ_iff_lt_or_eq.1 ht with h|h;exact hok t h;subst h;exact⟨hat,vD,qV⟩),(by rw [nK h46];exact hnd)⟩)
   refine af.skip (NX (af.seq (SR (jK 3 [48,50] [(2,a_ 3 b1)] ?_))))
   rcases hup:up ((ez ns i j++ps).map (iQ ns)) (en (nd ns i).ah j).id with _|y
   ·refine ak.v7 1 (d:=(some 51)) (t:=171) (K:=3) (E:=3) (b:=mp) (n:=(ez ns i j++ps).length) (f:=(mf (pf ((ez ns i j++ps).map (iQ ns))))) (x:=(.tmp 48)) (ix:=(.tmp 50)) (key:=.int .i64 ((en (nd ns i).ah j).id)) (z:=.int .i64 0) (kl:=(.int .i64 (en (nd ns i).ah j).id)) (r:=none) (fun _=>by kernel_rfl) (by kernel_rfl) (fun _=>by kernel_rfl) (fun _=>by kernel_rfl) gT Tryz.underlying171 (fun _=>by kernel_rfl) (sA (hwf j (by omega)).1 (hwf j (by omega)).2) (yj hup) ?_
    refine jK 5 [12] [] ?_
    refine NS (jK 1 [54] [] ?_)
    refine NN (CF (af.skip (NX (af.tj 7 (by kernel_rfl) (by kernel_rfl) ?_))))
    refine iB.seg (k':=7) (fr':=[(0,.pointer (some ⟨(aP A),aO A+i * 10,none⟩)),(1,.map (some mb)),(2,.map (some mp)),(7,.string (en (nd ns i).ah j).name),(16,.slice (L.eA i) ((nd ns i).ah.length) ((L.eC i))),(17,vI ↑((nd ns i).ah.length)),(18,vI ↑j),(55,.map (some mp)),(57,vI ((en (nd ns i).ah j).id)),(61,vI ((nd ns i).id))]) (ct:=[(Rd β ⟨(aP A),aO A+i * 10,none⟩ (.int .i64 ((nd ns i).id))),b1=b1]) [o_,o_,⟨[.at 3],none,none,none,none⟩,o_,o_,o_,⟨[.old (.int .i64 ((nd ns i).id))],none,none,none,none⟩] [0,1,2,7,16,17,18,55,57,61] (fun _ _=>by kernel_rfl) ⟨aB.rd hG (i:=i) (by omega) (j:=0) rfl,rfl,trivial⟩ (by decide) ?_
    refine iB.done rfl ?_
    refine ak.oP 1 (d:=none) (t:=171) (K:=3) (E:=3) (b:=mp) (n:=(ez ns i j++ps).length) (f:=(mf (pf ((ez ns i j++ps).map (iQ ns))))) (x:=(.tmp 55)) (ix:=(.tmp 57)) (y:=(.tmp 61)) (key:=.int .i64 ((en (nd ns i).ah j).id)) (u:=.int .i64 ((nd ns i).id)) (kl:=(.int .i64 (en (nd ns i).ah j).id)) (n':=(ez ns i (j+1)++ps).length) (f':=(mf (pf ((ez ns i (j+1)++ps).map (iQ ns))))) (fun _=>by kernel_rfl) (by kernel_rfl) (fun _=>by kernel_rfl) (fun _=>by kernel_rfl) (fun _=>by kernel_rfl) gT Tryz.underlying171 (by have:=I7 ns i j;rw [List.length_append];unfold maxLen;omega) (sA (hwf j (by omega)).1 (hwf j (by omega)).2) (SV (yj hup) h46) (SQ hat h46) ?_
    refine NL (ai.ax (NX (af.region ?_)))
    refine jK 2 [18] [(0,wJ ((j:Int)+1) (↑(j+1)))] ?_
    refine NL ?_
    exact tJ ((j+1)) [0,1,2] (⟨by omega,fun t ht=>(by rcases Nat.lt_succ_iff_lt_or_eq.1 ht with h|h;exact hok t h;subst h;exact⟨hat,vD,qV⟩),(Nl hat h46 hup hnd)⟩)
   refine ak.v7 1 (d:=(some 51)) (t:=171) (K:=3) (E:=3) (b:=mp) (n:=(ez ns i j++ps).length) (f:=(mf (pf ((ez ns i j++ps).map (iQ ns))))) (x:=(.tmp 48)) (ix:=(.tmp 50)) (key:=.int .i64 ((en (nd ns i).ah j).id)) (z:=.int .i64 0) (kl:=(.int .i64 (en (nd ns i).ah j).id)) (r:=(some (vI y))) (fun _=>by kernel_rfl) (by kernel_rfl) (fun _=>by kernel_rfl) (fun _=>by kernel_rfl) gT Tryz.underlying171 (fun _=>by kernel_rfl) (sA (hwf j (by omega)).1 (hwf j (by omega)).2) (Vg hup) ?_
   refine jK 5 [12] [] ?_
   refine NS (jK 1 [54] [] ?_)
   refine NN (CT (SR (jK 1 [6] [] ?_)))
   refine NN (af.ret (ai.aj (ai.au (ai.aj (ai.aj (ai.au (ai.aj ?_)))))))
   exact RT _ [2] (.inr ⟨rfl,Lj hr hps hok hat h46 hup (by omega),rfl⟩)
  refine ak.iY 0 (d:=(some 25)) (t:=135) (K:=3) (E:=169) (b:=mb) (n:=ns.length) (f:=(mf (bf A ns ns.length))) (x:=(.tmp 22)) (ix:=(.tmp 24)) (key:=.int .i64 ((en (nd ns i).ah j).id)) (z:=.pointer none) (kl:=(.int .i64 (en (nd ns i).ah j).id)) (r:=none) (fun _=>by kernel_rfl) (by kernel_rfl) (fun _=>by kernel_rfl) (fun _=>by kernel_rfl) gT Tryz.underlying135 (fun _=>by kernel_rfl) (sA (hwf j (by omega)).1 (hwf j (by omega)).2) (Ws hat) ?_
  refine jK 1 [10] [] ?_
  refine NN (af.seq (SR (jK 14 [39] [] ?_)))
  refine NN (CT (SR (jK 1 [6] [] ?_)))
  refine NN (af.ret (ai.aj (ai.au (ai.aj (ai.aj (ai.au (ai.aj ?_)))))))
  exact RT _ [2] (.inr ⟨rfl,fun h=>hat (h.ah j (by omega)).at_,rfl⟩)
 refine af.exit (ai.aC (ai.aC (ai.aW (NX (SR ?_)))))
 refine jK 1 [6] [] ?_
 refine NN (af.ret ?_)
 exact RT (l:=[.abs (bq Tryz.prog 3 mb (mf (bf A ns ns.length)) ns.length),.abs (bq Tryz.prog 3 mp (mf (pf ((ez ns i j++ps).map (iQ ns)))) ((ez ns i j++ps).length))]) _ [0,1,2] (.inl ⟨rfl,⟨fun t ht=>hok t (by omega),by grind⟩,by grind⟩)
end
section
open Go.RowKit Go.Maps
def bJ (ns:List aA):Nat->Nat
  | 0=>0
  | k+1=>bJ ns k+(nd ns k).ah.length
def ny (ns:List aA):Nat->Int
  | 0=>0
  | k+1=>(nd ns k).id
structure aV (ns:List aA):Prop where
  len:ns.length<=4096
  node:∀ i,i < ns.length->ox (nd ns i)
  ids:∀ i,i < ns.length->1<=(nd ns i).id/\(nd ns i).id<=1099511627776
  rise:bH ns
  sum:bJ ns ns.length<=8192
  ah:∀ i,i < ns.length->∀ j,j < (nd ns i).ah.length->tu ns i j
  nodup:((fW ns ns.length).map Prod.fst).Nodup
  ends:xL ((fW ns ns.length).map (iQ ns))
noncomputable instance (ns:List aA):Decidable (aV ns):=Classical.propDecidable _
theorem aV.last {ns:List aA} (h:aV ns) {k:Nat} (hk:k < ns.length):ny ns k < (nd ns k).id:=by
  cases k with
  | zero=>have:=(h.ids 0 hk).1;show (0:Int) < _;omega
  | succ k=>exact h.rise k (k+1) (Nat.lt_succ_self k) hk
structure sI (ns:List aA) (k:Nat):Prop where
  node:∀ i,i < k->ox (nd ns i)
  ids:∀ i,i < k->1<=(nd ns i).id/\(nd ns i).id<=1099511627776
  rise:∀ i j,i < j->j < k->(nd ns i).id < (nd ns j).id
theorem sI.zero (ns:List aA):sI ns 0:=⟨fun i h=>absurd h (Nat.not_lt_zero i),fun i h=>absurd h (Nat.not_lt_zero i),fun _ j _ h=>absurd h (Nat.not_lt_zero j)⟩
theorem sI.last {ns:List aA} {k:Nat} (h:sI ns k):0<=ny ns k/\ny ns k<=1099511627776:=by
  cases k with
  | zero=>exact⟨Int.le_refl _,by show (0:Int)<=1099511627776;decide⟩
  | succ k=>have:=h.ids k (Nat.lt_succ_self k);exact⟨by show 0<=(nd ns k).id;omega,this.2⟩
theorem sI.step {ns:List aA} {k:Nat} (h:sI ns k) (h1:ny ns k < (nd ns k).id) (h2:(nd ns k).id<=1099511627776) (h3:ox (nd ns k)):sI ns (k+1):=by
  have hl:=h.last
  refine⟨fun i hi=>?_,fun i hi=>?_,fun i j hij hj=>?_⟩
  ·rcases Nat.lt_succ_iff_lt_or_eq.1 hi with e|e
   ·exact h.node i e
   rw [e];exact h3
  ·rcases Nat.lt_succ_iff_lt_or_eq.1 hi with e|e
   ·exact h.ids i e
   rw [e];omega
  rcases Nat.lt_succ_iff_lt_or_eq.1 hj with e|e
  ·exact h.rise i j hij e
  subst e
  cases j with
  | zero=>omega
  | succ m=>
    have h4:(nd ns m).id < (nd ns (m+1)).id:=h1
    rcases Nat.lt_succ_iff_lt_or_eq.1 hij with e|e
    ·have:=h.rise i m e (Nat.lt_succ_self m);omega
    rw [e];exact h4
theorem JA {ns:List aA} {k:Nat} (h:∀ i,i < k->(nd ns i).id < (nd ns k).id) (hk:k < ns.length):fP ns (nd ns k).id=(k:Int):=by
  unfold fP
  have hg:∀ j (hj:j < ns.length),nd ns j=ns[j]:=fun j hj=>by
    grind [nd]
  have:ns.findIdx? (fun n=>n.id == (nd ns k).id)=some k:=by
    rw [List.findIdx?_eq_some_iff_getElem]
    grind
  rw [this]
theorem X7 {A:Option Addr} {ns:List aA} {k:Nat} (h:∀ i,i < k->(nd ns i).id < (nd ns k).id) (hk:k < ns.length) :
    oq (mf (bf A ns k)) (.int .i64 (nd ns k).id) (some (.pointer (some ⟨aP A,aO A+k * 10,none⟩)))=mf (bf A ns (k+1)):=by
  have ha:=JA h hk
  rw [IL]
  congr 1
  funext z
  unfold bf
  by_cases e:z=(nd ns k).id
  ·grind [tgt]
  rw [if_neg e]
  by_cases e1:0<=fP ns z/\fP ns z < (k:Int)
  ·rw [if_pos e1,if_pos ⟨e1.1,by omega⟩]
  rw [if_neg e1,if_neg (fun e2=>?_)]
  have e3:fP ns z=(k:Int):=by omega
  have e4:=(kg e2.1).2
  grind
theorem TD {A:Option Addr} {ns:List aA} {k:Nat} (h:∀ i,i < k->(nd ns i).id < (nd ns k).id) (hk:k < ns.length):(if ((mf (bf A ns k)) (.int .i64 (nd ns k).id)).isSome then k else k+1)=k+1:=by
  grind [JA,mf,bf,nd]
theorem sI.below {ns:List aA} {k:Nat} (h:sI ns k) (h1:ny ns k < (nd ns k).id):∀ i,i < k->(nd ns i).id < (nd ns k).id:=by
  intro i hi
  cases k with
  | zero=>omega
  | succ m=>
    have h1:(nd ns m).id < (nd ns (m+1)).id:=h1
    rcases Nat.lt_succ_iff_lt_or_eq.1 hi with e|e
    ·have:=h.rise i m e (Nat.lt_succ_self m);omega
    rw [e];exact h1
theorem WK {A:Option Addr} {ns:List aA}:mf (bf A ns 0)=fun _=>none:=by
  rw [← Fb]
  congr 1
  funext z
  exact if_neg (fun e=>by omega)
theorem WL {ns:List aA}:mf (pf ((fW ns 0).map (iQ ns)))=fun _=>none:=by
  rw [← Fb]
  congr 1
theorem vE {ns:List aA} {i:Nat} (hi:i<=ns.length) (h:∀ a,a < i->∀ j,j < (nd ns a).ah.length->tu ns a j):∀ p,p∈fW ns i->p.1 < ns.length/\p.2 < ns.length:=by
  induction i with
  | zero=>intro p hp;cases hp
  | succ i ih=>
    intro p hp
    grind [fW,I8]
theorem JB (ns:List aA) (i:Nat):(fW ns i).length<=bJ ns i:=by
  induction i with
  | zero=>exact Nat.le_refl _
  | succ i ih=>
    grind [fW,bJ,I7,nd]
theorem mH {ns:List aA} {i m:Nat} (h:i<=m):bJ ns i<=bJ ns m:=by
  induction m with
  | zero=>rw [Nat.le_zero.1 h];exact Nat.le_refl _
  | succ m ih=>
    grind [bJ]
theorem Qg {ns:List aA} {ps:List (Nat×Nat)} (hp:∀ p,p∈ps->p.1 < ns.length/\p.2 < ns.length) (hid:∀ i,i < ns.length->1<=(nd ns i).id/\(nd ns i).id<=1099511627776) :
    ∀ z y,up (ps.map (iQ ns)) z=some y->(-9223372036854775808<=z/\z<=9223372036854775807)/\(-9223372036854775808<=y/\y<=9223372036854775807):=by
  intro z y h
  unfold up at h
  induction ps with
  | nil=>cases h
  | cons p ps ih=>
    grind [iQ,nd]
theorem X8 {p:Prop} [Decidable p] {v:Value} {l:List HP} (h:v=.bool (decide p)/\l=[]):(v=.bool true/\p/\l=[])\/(v=.bool false/\¬ p/\l=[]):=by
  by_cases hp:p
  all_goals grind
theorem yq.next {ns:List aA} {i:Nat} (h:yq ns i (fW ns i)):((fW ns (i+1)).map Prod.fst).Nodup:=h.nodup
theorem aV.row {ns:List aA} (h:aV ns) {i:Nat} (hi:i < ns.length):yq ns i (fW ns i):=by
  refine⟨h.ah i hi,?_⟩
  obtain⟨l,hl⟩:=Py (ns:=ns) (show i+1<=ns.length from hi)
  have:=h.nodup
  rw [hl] at this
  exact zX this
end
section
open Go.RowKit
attribute [local irreducible] ak aU af ai
theorem WM {β:Bs} (A:Option Addr) (c:Nat) (ns:List aA) (L:Lay) (hG:aB β A ns L) (hl:ns.length<=1048576) (hd:∀ i,i < ns.length->(nd ns i).data.length<=140737488355328/\(nd ns i).ah.length<=1048576) (hwf:∀ i,i < ns.length->∀ j,j < (nd ns i).ah.length->-9223372036854775808<=(ent ns i j).id/\(ent ns i j).id<=9223372036854775807) (hnm:∀ i,i < ns.length->∀ j,j < (nd ns i).ah.length->(ent ns i j).name.size<=1048576) :
    Spec Tryz.prog β 55 #[.agg #[.slice A ns.length c]] [] (fun v l=>(∃ mb,v=.tuple #[.map (some mb),.bool true]/\aV ns/\l=[.abs (bq Tryz.prog 3 mb (mf (bf A ns ns.length)) ns.length)])\/(∃ m,v=.tuple #[m,.bool false]/\¬ aV ns/\l=[])):=by
 refine SE Tryz.func55 Tryz.ntmps55 (fun R=>?_)
 refine SR (jN 3 [1] (fun _=>[]) (fun _=>[]) (fun b1=>.blk b1 [.slice A (ns.length) (c)] 24) (fun b1=>?_))
 refine NN (af.seq (SR (jK 4 [14] [(1,a_ 1 b1)] ?_)))
 refine NN (cP ((((ns.length:Nat):Int):Int) > (4096:Int)) (fun iH=>?_) (fun iH=>?_))
 ·refine SR (jK 2 [2,3] [] ?_)
  refine NN (af.ret (ai.aj ?_))
  exact RT (.tuple #[.map none,.bool false]) [0] (.inr ⟨_,rfl,fun h=>by have:=h.len;omega,rfl⟩)
 refine af.skip (NX (SR (ak.qR (d:=(some 15)) (t:=135) (fun _=>by kernel_rfl) Tryz.prog rfl 3 (fun m2=>?_))))
 refine jK 1 [4] [] ?_
 refine NS (ak.bM 2 (p':=.abs (bq Tryz.prog 3 m2 (mf (bf A ns 0)) 0)) rfl (by rw [WK]) ?_)
 refine jK 2 [5,6] [] ?_
 refine NN (af.seq (SR (jK 4 [18,19] [(1,a_ 1 b1)] ?_)))
 refine NN (af.block ?_)
 refine lJ (ι:=Nat) (fun (k:Nat)=>(k<=ns.length)/\(sI ns k)/\(bJ ns k<=k * 1048576)) (fun (k:Nat)=>ns.length - k) (fun (k:Nat)=>[(1,vP b1),(4,.map (some m2)),(5,vI (ny ns k)),(6,vI ↑(bJ ns k)),(18,vI ↑ns.length),(19,vI ↑k)]) (fun (k:Nat)=>[.blk b1 [.slice A (ns.length) (c)] 24,.abs (bq Tryz.prog 3 m2 (mf (bf A ns k)) k),.abs R]) 0 [1,2,0] (⟨Nat.zero_le _,sI.zero ns,Nat.zero_le _⟩) ?_
 rintro k ⟨hk,hu,hs⟩
 have hk4:=(hd k)
 refine SR (jK 1 [20] [] ?_)
 refine NN (af.seq (cP ((((k:Nat):Int):Int) < (((ns.length:Nat):Int):Int)) (fun nJ=>?_) (fun nJ=>?_)))
 ·refine af.skip (NX (af.seq (af.block (SR ?_))))
  refine jK 2 [7] [] ?_
  refine NS (jK 5 [8] [(1,a_ 0 b1),(3,x_ k ns.length (aB.hd hG (i:=k) (by omega)))] ?_)
  refine NN (af.seq (SR (jK 7 [32] [(3,r_ (aB.rd hG (i:=k) (by omega) (j:=0) rfl))] ?_)))
  refine sP 32 (((nd ns k).id:Int)<=(ny ns k:Int)) (fun oY=>?_) (fun oY=>?_)
  ·refine jK 11 [43] [] ?_
   refine NN (CT (SR (jK 2 [2,3] [] ?_)))
   refine NN (af.ret (ai.aj (ai.au (ai.aj (ai.aj (ai.au (ai.aj ?_)))))))
   exact RT (.tuple #[.map none,.bool false]) [2] (.inr ⟨_,rfl,fun h=>by have:=h.last (show k < ns.length by omega);omega,rfl⟩)
  refine jK 7 [39] [(3,r_ (aB.rd hG (i:=k) (by omega) (j:=0) rfl))] ?_
  refine sP 39 (((nd ns k).id:Int) > (1099511627776:Int)) (fun qV=>?_) (fun qV=>?_)
  ·refine jK 4 [43] [] ?_
   refine NN (CT (SR (jK 2 [2,3] [] ?_)))
   refine NN (af.ret (ai.aj (ai.au (ai.aj (ai.aj (ai.au (ai.aj ?_)))))))
   exact RT (.tuple #[.map none,.bool false]) [2] (.inr ⟨_,rfl,fun h=>by have:=(h.ids k (by omega)).2;omega,rfl⟩)
  refine jK 1 [40] [] ?_
  refine gL [] (SN A ns L hG k (by omega)) ?_
  rintro _ _ ⟨rfl,rfl⟩
  refine jK 2 [43] [] ?_
  refine NN (cN (ox (nd ns k)) (fun Em=>?_) (fun Em=>?_))
  ·refine SR (jK 2 [2,3] [] ?_)
   refine NN (af.ret (ai.aj (ai.au (ai.aj (ai.aj (ai.au (ai.aj ?_)))))))
   exact RT (.tuple #[.map none,.bool false]) [2] (.inr ⟨_,rfl,fun h=>Em (h.node k (by omega)),rfl⟩)
  refine af.skip (NX (SR (jK 5 [5] [(3,r_ (aB.rd hG (i:=k) (by omega) (j:=0) rfl))] ?_)))
  refine NS (jK 6 [48,52,53] [(4,r_ (aB.rd hG (i:=k) (by omega) (j:=0) rfl))] ?_)
  refine ak.oP 1 (d:=none) (t:=135) (K:=3) (E:=169) (b:=m2) (n:=k) (f:=(mf (bf A ns k))) (x:=(.tmp 48)) (ix:=(.tmp 52)) (y:=(.tmp 53)) (key:=.int .i64 ((nd ns k).id)) (u:=.pointer (some ⟨(aP A),aO A+k * 10,none⟩)) (kl:=(.int .i64 (nd ns k).id)) (n':=k+1) (f':=(mf (bf A ns (k+1)))) (fun _=>by kernel_rfl) (by kernel_rfl) (fun _=>by kernel_rfl) (fun _=>by kernel_rfl) (fun _=>by kernel_rfl) gT Tryz.underlying135 (by unfold maxLen;omega) (sA (by have:=hu.last;omega) (by omega)) (TD (hu.below (by omega)) (by omega)) (X7 (hu.below (by omega)) (by omega)) ?_
  refine NN (af.region (jK 8 [6] [(4,r_ (aB.rd hG (i:=k) (by omega) (j:=9) rfl)),(6,wJ (((bJ ns k:Nat):Int)+(((nd ns k).ah.length:Nat):Int)) (↑((bJ ns k)+((nd ns k).ah.length))))] ?_))
  refine NL (ai.ax (NX (af.region ?_)))
  refine jK 2 [19] [(0,wJ ((k:Int)+1) (↑(k+1)))] ?_
  refine NL ?_
  exact tJ ((k+1)) [0,1,2] (⟨by omega,hu.step (by omega) (by omega) Em,by grind [bJ]⟩)
 refine af.exit (ai.aC (ai.aC (ai.aW (NX (af.seq (SR ?_))))))
 refine jK 2 [63] [] ?_
 refine NN (cP ((((bJ ns k:Nat):Int):Int) > (8192:Int)) (fun h63=>?_) (fun h63=>?_))
 ·refine SR (jK 2 [2,3] [] ?_)
  refine NN (af.ret (ai.aj ?_))
  exact RT (.tuple #[.map none,.bool false]) [2] (.inr ⟨_,rfl,fun h=>by have h1:=h.sum;grind,rfl⟩)
 refine af.skip (NX (SR (ak.qR (d:=(some 64)) (t:=171) (fun _=>by kernel_rfl) Tryz.prog rfl 3 (fun m3=>?_))))
 refine jK 1 [9] [] ?_
 refine NN (af.seq (SR (ak.bM 3 (p':=.abs (bq Tryz.prog 3 m3 (mf (pf ((fW ns 0).map (iQ ns)))) ((fW ns 0).length))) rfl (by rw [WL];rfl) ?_)))
 refine ak.bM 1 (p':=.abs (bq Tryz.prog 3 m2 (mf (bf A ns ns.length)) ns.length)) rfl (by rw [show k=ns.length by omega]) ?_
 refine jK 4 [67,68] [(1,a_ 0 b1)] ?_
 refine NN (af.block ?_)
 have yD:bH ns:=fun a b hab hb=>hu.rise a b hab (by omega)
 have hsum:bJ ns ns.length<=8192:=by rw [show ns.length=k by omega];omega
 refine lJ (ι:=Nat) (fun (i:Nat)=>(i<=ns.length)/\(∀ a,a < i->∀ j,j < (nd ns a).ah.length->tu ns a j)/\(((fW ns i).map Prod.fst).Nodup)) (fun (i:Nat)=>ns.length - i) (fun (i:Nat)=>[(1,vP b1),(4,.map (some m2)),(9,.map (some m3)),(67,vI ↑ns.length),(68,vI ↑i)]) (fun (i:Nat)=>[.blk b1 [.slice A (ns.length) (c)] 24,.abs (bq Tryz.prog 3 m2 (mf (bf A ns ns.length)) ns.length),.abs (bq Tryz.prog 3 m3 (mf (pf ((fW ns i).map (iQ ns)))) ((fW ns i).length)),.abs R]) 0 [0,1,3,2] (⟨Nat.zero_le _,fun a ha=>absurd ha (Nat.not_lt_zero a),List.nodup_nil⟩) ?_
 rintro i ⟨hi,wv,hnd⟩
 refine SR (jK 1 [69] [] ?_)
 refine NN (af.seq (cP ((((i:Nat):Int):Int) < (((ns.length:Nat):Int):Int)) (fun Vf=>?_) (fun Vf=>?_)))
 ·refine af.skip (NX (af.seq (af.block (SR ?_))))
  refine jK 2 [10] [] ?_
  refine NS (jK 6 [74,75,76] [(1,a_ 0 b1),(3,x_ i ns.length (aB.hd hG (i:=i) (by omega)))] ?_)
  refine gL [1,2] (TB A ns L hG yD i (by omega) (hd i (by omega)).2 (hwf i (by omega)) (hnm i (by omega)) m2 m3 (fW ns i) (by have:=JB ns i;have:=mH (ns:=ns) (show i<=ns.length by omega);omega) (fun p hp=>(vE (by omega) wv p hp).1) hnd) ?_
  rintro _ _ (⟨rfl,hro,rfl⟩|⟨rfl,hro,rfl⟩)
  ·refine jK 1 [78] [] ?_
   refine NN (CF (af.skip (ai.ax (NX (af.region ?_)))))
   refine jK 2 [68] [(0,wJ ((i:Int)+1) (↑(i+1)))] ?_
   refine NL ?_
   exact tJ ((i+1)) [2,0,1,3] (⟨by omega,fun a ha=>(by rcases Nat.lt_succ_iff_lt_or_eq.1 ha with h|h;exact wv a h;subst h;exact hro.ah),hro.next⟩)
  refine jK 1 [78] [] ?_
  refine NN (CT (SR (jK 2 [2,3] [] ?_)))
  refine NN (af.ret (ai.au (ai.aj (ai.aj (ai.au (ai.aj ?_))))))
  exact RT (.tuple #[.map none,.bool false]) [1] (.inr ⟨_,rfl,fun h=>hro (h.row (by omega)),rfl⟩)
 refine af.exit (ai.aC (ai.aC (ai.aW (NX (SR ?_)))))
 refine jK 2 [80,81] [] ?_
 refine ak.bM 2 (p':=.abs (bq Tryz.prog 3 m3 (mf (pf ((fW ns i).map (iQ ns)))) (((fW ns i).map (iQ ns)).length))) rfl (by rw [List.length_map]) ?_
 refine gL [2] ((Pv m3 ((fW ns i).map (iQ ns)) (by grind [JB,mH]) (Qg (vE (by omega) wv) (fun a ha=>hu.ids a (by omega)))).mono (fun v l h=>X8 h)) ?_
 rintro _ _ (⟨rfl,hae,rfl⟩|⟨rfl,hae,rfl⟩)
 ·refine jK 2 [2,3] [] ?_
  refine NN (af.ret ?_)
  exact RT (.tuple #[.map (some m2),.bool true]) [1,2] (.inl ⟨m2,rfl,⟨by omega,fun a ha=>hu.node a (by omega),fun a ha=>hu.ids a (by omega),yD,by omega,fun a ha=>wv a (by omega),by grind,by grind⟩,rfl⟩)
 refine jK 2 [2,3] [] ?_
 refine NN (af.ret ?_)
 exact RT (.tuple #[.map (some m2),.bool false]) [2] (.inr ⟨_,rfl,fun h=>hae (by have:=h.ends;grind),rfl⟩)
theorem TF {β:Bs} (A:Option Addr) (c:Nat) (ns:List aA) (L:Lay) (hG:aB β A ns L) (hl:ns.length<=1048576) (hd:∀ i,i < ns.length->(nd ns i).data.length<=140737488355328/\(nd ns i).ah.length<=1048576) (hwf:∀ i,i < ns.length->∀ j,j < (nd ns i).ah.length->-9223372036854775808<=(ent ns i j).id/\(ent ns i j).id<=9223372036854775807) (hnm:∀ i,i < ns.length->∀ j,j < (nd ns i).ah.length->(ent ns i j).name.size<=1048576) :
    Spec Tryz.prog β 22 #[.agg #[.slice A ns.length c]] [] (fun v l=>v=vI (if aV ns then 0 else 140)/\l=[]):=by
 refine SE Tryz.func22 Tryz.ntmps22 (fun R=>?_)
 refine SR (jN 2 [1] (fun _=>[]) (fun _=>[]) (fun b4=>.blk b4 [.slice A (ns.length) (c)] 24) (fun b4=>?_))
 refine NN (af.seq (SR (jK 1 [6] [(0,a_ 1 b4)] ?_)))
 refine gL [] (WM A c ns L hG hl hd hwf hnm) ?_
 rintro _ _ (⟨mb,rfl,hok,rfl⟩|⟨m,rfl,hok,rfl⟩)
 ·refine jK 5 [4] [] ?_
  refine NS (jK 2 [11] [] ?_)
  refine NN (CF (af.skip (NX (SR (jK 1 [2] [] ?_)))))
  refine NN (af.ret ?_)
  exact RT _ [1] (⟨congrArg (Value.int .i64) (if_pos hok).symm,rfl⟩)
 refine jK 5 [4] [] ?_
 refine NS (jK 2 [11] [] ?_)
 refine NN (CT (SR (jK 1 [2] [] ?_)))
 refine NN (af.ret (ai.aj ?_))
 exact RT _ [0] (⟨congrArg (Value.int .i64) (if_neg hok).symm,rfl⟩)
end
section
open Go.RowKit Go.Maps
def yE (ed:List (Nat×Nat)) (k:Nat):Int:=match ed.lookup k with|some a=>(a:Int)|none=>-1
structure JC (n:Nat) (pl:List Int) (ed:List (Nat×Nat)):Prop where
  len:pl.length=n
  at_:∀ k,k < n->pl.getD k 0=yE ed k
theorem wz {w:List Int} {j:Nat} (hj:j < w.length):(gq w)[j]?=some (.int .i64 (w.getD j 0)):=by
  grind [gq,getD_some]
theorem AL (pl:List Int) (k:Nat) (x:Int):(gq pl).set k (.int .i64 x)=gq (pl.set k x):=by
  unfold gq
  rw [List.map_set]
theorem JD {pl:List Int} {k j:Nat} {x:Int} (hk:k < pl.length):(pl.set k x).getD j 0=if j=k then x else pl.getD j 0:=by
  grind
theorem JC.put {n:Nat} {pl:List Int} {ed:List (Nat×Nat)} (h:JC n pl ed) {k a:Nat} (hk:k < n):JC n (pl.set k (a:Int)) ((k,a)::ed):=by
  refine⟨by rw [List.length_set];exact h.len,fun j hj=>?_⟩
  rw [JD (by rw [h.len];exact hk)]
  unfold yE
  rw [List.lookup_cons]
  by_cases e:j=k
  ·subst e;simp
  have:(j == k)=false:=by simp [e]
  rw [if_neg e,this,h.at_ j hj]
  rfl
theorem wA {ed:List (Nat×Nat)} {k:Nat}:yE ed k < 0↔k∉ed.map Prod.fst:=by
  grind [yE]
theorem WN {ns:List aA} {ed:List (Nat×Nat)} {k:Nat} (hr:bH ns) (hk:k < ns.length) (hp:∀ p,p∈ed->p.1 < ns.length) :
    (yE ed k < 0/\up (ed.map (iQ ns)) (nd ns k).id=none)\/∃ a:Nat,yE ed k=(a:Int)/\(k,a)∈ed/\up (ed.map (iQ ns)) (nd ns k).id=some (nd ns a).id:=by
  unfold yE up
  induction ed with
  | nil=>exact .inl ⟨by simp,rfl⟩
  | cons p ed ih=>
    obtain⟨a,b⟩:=p
    rw [List.map_cons,iQ,List.lookup_cons,List.lookup_cons]
    by_cases e:k=a
    ·grind
    have h1:(k == a)=false:=by simp [e]
    have h2:((nd ns k).id == (nd ns a).id)=false:=by
      simp
      exact fun h=>e (hr.inj hk (hp (a,b) (List.mem_cons_self ..)) h)
    grind
theorem Way.back {ps:List (Int×Int)} {z0:Int} {w:List Int} (h:Way ps z0 w z0) (hl:0 < w.length):¬ Ends ps z0:=fun ⟨k,hk⟩=>by
  obtain⟨j,hj,h2⟩:=h.long hk
  have:=kf.uniq hk h2
  omega
theorem JE:∀ (n:Nat) (l:List Nat),l.Nodup->(∀ x,x∈l->x < n)->l.length<=n
  | 0,[],_,_=>Nat.le_refl _
  | 0,a::l,_,h=>absurd (h a (List.mem_cons_self ..)) (Nat.not_lt_zero a)
  | n+1,l,hn,h=>by
    have h1:=JE n (l.erase n) (hn.erase n) (fun x hx=>by
      have h2:=(List.Nodup.mem_erase_iff hn).1 hx
      have:=h x h2.2
      omega)
    by_cases hm:n∈l
    ·have:=List.length_erase_of_mem hm
     omega
    rw [List.erase_of_not_mem hm] at h1
    omega
theorem Qh {ns:List aA} {ed:List (Nat×Nat)} (hp:∀ p,p∈ed->p.1 < ns.length) (h:∀ i,i < ns.length->Ends (ed.map (iQ ns)) (nd ns i).id):xL (ed.map (iQ ns)):=by
  intro z
  cases hu:up (ed.map (iQ ns)) z with
  | none=>exact⟨0,hu⟩
  | some y=>
    have:∃ p,p∈ed/\z=(nd ns p.1).id:=by
      unfold up at hu
      clear h
      induction ed with
      | nil=>cases hu
      | cons p ed ih=>
        grind [iQ,nd]
    obtain⟨p,h1,rfl⟩:=this
    exact h p.1 (hp p h1)
theorem JF {ns:List aA} {ed:List (Nat×Nat)} {pl:List Int} {z:Int} {b m:Nat} {w:List Int} (hr:bH ns) (hp:∀ p,p∈ed->p.1 < ns.length/\p.2 < ns.length) (hpar:JC ns.length pl ed) (hb:b < ns.length) (hw:Way (ed.map (iQ ns)) z w (nd ns b).id) (hm:w.length=m) :
    (pl.getD b 0 < 0/\Ends (ed.map (iQ ns)) z)\/∃ q:Nat,pl.getD b 0=(q:Int)/\q < ns.length/\Way (ed.map (iQ ns)) z (w++[(nd ns b).id]) (nd ns q).id/\(w++[(nd ns b).id]).length=m+1:=by
  rw [hpar.at_ b hb]
  rcases WN hr hb (fun p h=>(hp p h).1) with ⟨h1,h2⟩|⟨a,h1,h2,h3⟩
  ·exact .inl ⟨h1,(hw.ends ⟨0,h2⟩).1⟩
  exact .inr ⟨a,h1,(hp _ h2).2,hw.snoc h3,by simp;omega⟩
theorem yG {ns:List aA} {i j:Nat} (h1:0<=fP ns (ent ns i j).id) (h2:bO (ent ns i j).name) (h3:0 < j->¬ eH (ent ns i j).name (ent ns i (j - 1)).name):tu ns i j:=by
  refine⟨h1,h2,?_⟩
  cases j with
  | zero=>
    intro h
    have:=Li.1 h
    have h4:=h2.1
    rw [this] at h4
    exact absurd h4 (by decide)
  | succ j=>exact h3 (Nat.succ_pos j)
theorem NW {ns:List aA} {k:Nat} (h:0 < k):ny ns k=(nd ns (k - 1)).id:=by
  cases k with
  | zero=>omega
  | succ k=>rfl
theorem JG {ns:List aA} {i j:Nat} (h:0 < j):o3 ns i j=(ent ns i (j - 1)).name:=by
  cases j with
  | zero=>omega
  | succ j=>rfl
theorem aV.few {ns:List aA} (h:aV ns):((fW ns ns.length).map (iQ ns)).length<=ns.length:=by
  rw [List.length_map]
  have h1:=vE (ns:=ns) (Nat.le_refl _) h.ah
  have h2:=JE ns.length ((fW ns ns.length).map Prod.fst) h.nodup (fun x hx=>by
    obtain⟨p,hp,rfl⟩:=List.mem_map.1 hx
    exact (h1 p hp).1)
  rwa [List.length_map] at h2
end
section
open Go.RowKit
attribute [local irreducible] ak aU af ai
theorem LA {β:Bs} (A:Option Addr) (c:Nat) (ns:List aA) (L:Lay) (hG:aB β A ns L) (hl:ns.length<=1048576) (hd:∀ i,i < ns.length->(nd ns i).data.length<=1048576/\(nd ns i).ah.length<=1048576) (_:∀ i,i < ns.length->∀ j,j < (nd ns i).ah.length->-9223372036854775808<=(ent ns i j).id/\(ent ns i j).id<=9223372036854775807) (hnm:∀ i,i < ns.length->∀ j,j < (nd ns i).ah.length->(ent ns i j).name.size<=1048576) (ht:∀ i,i < ns.length->(nd ns i).target.size<=1048576) :
    Spec Tryz.prog β 28 #[.agg #[.slice A ns.length c]] [] (fun v l=>v=vI (if aV ns then 0 else 140)/\l=[]):=by
 refine SE Tryz.func28 Tryz.ntmps28 (fun R=>?_)
 refine SR (jN 2 [1] (fun _=>[]) (fun _=>[]) (fun b1=>.blk b1 [.slice A (ns.length) (c)] 24) (fun b1=>?_))
 refine NN (af.seq (SR (jK 4 [18] [(1,a_ 1 b1)] ?_)))
 refine NN (cP ((((ns.length:Nat):Int):Int) > (4096:Int)) (fun nI=>?_) (fun nI=>?_))
 ·refine SR (jK 1 [2] [] ?_)
  refine NN (af.ret (ai.aj ?_))
  exact RT _ [0] (⟨congrArg (Value.int .i64) (if_neg (c:=aV ns) (fun h=>by have:=h.len;omega)).symm,rfl⟩)
 refine af.skip (NX (SR (jK 1 [3] [] ?_)))
 refine NN (af.seq (SR (jK 1 [4] [] ?_)))
 refine NN (af.block ?_)
 refine lJ (fun (k:Nat)=>(k<=ns.length)/\(sI ns k)/\(bJ ns k<=k * 1048576)) (fun (k:Nat)=>ns.length - k) (fun (k:Nat)=>[(1,vP b1),(3,vI ↑(bJ ns k)),(4,vI ↑k)]) (fun (k:Nat)=>[.blk b1 [.slice A (ns.length) (c)] 24,.abs R]) 0 [1,0] (⟨Nat.zero_le _,sI.zero ns,Nat.zero_le _⟩) ?_
 rintro k ⟨hk,hu,hs⟩
 have hk4:=(hd k)
 refine af.seq (SR (jK 5 [23] [(2,a_ 0 b1)] ?_))
 refine NN (cP ((((k:Nat):Int):Int) < (((ns.length:Nat):Int):Int)) (fun h23=>?_) (fun h23=>?_))
 ·refine af.skip (NX (af.seq (af.block (SR ?_))))
  refine jN 7 [5] (fun b2=>[(1,a_ 0 b1),(3,x_ k ns.length (aB.hd hG (i:=k) (by omega))),(4,zP (eT L k (nd ns k)) (fun _ _ h=>aB.rd hG (by omega) h)),(6,A_ 2 b2 10)]) (fun _=>[]) (fun b2=>.blk b2 (eT L k (nd ns k)) 66) (fun b2=>?_)
  refine NN (af.seq (af.seq (af.bF (by kernel_rfl) (by kernel_rfl) ?_)))
  refine jQ 4 [34] [(1,a_ 2 b2)] ?_
  refine aU.tf 34 (((nd ns k).id:Int) < (1:Int)) (fun _=>by kernel_rfl) (fun vD=>?_) (fun vD=>?_)
  ·refine jQ 25 [59] [] ?_
   refine NQ (NX ?_)
   refine CT (SR (jK 1 [2] [] ?_))
   refine NN (af.ret (ai.aj (ai.au (ai.aj (ai.aj (ai.au (ai.aj ?_)))))))
   exact RT _ [1] (⟨congrArg (Value.int .i64) (if_neg (c:=aV ns) (fun h=>by have:=(h.ids k (by omega)).1;omega)).symm,rfl⟩)
  refine jQ 5 [39] [(1,a_ 2 b2)] ?_
  refine aU.tf 39 (((nd ns k).id:Int) > (1099511627776:Int)) (fun _=>by kernel_rfl) (fun qV=>?_) (fun qV=>?_)
  ·refine jQ 20 [59] [] ?_
   refine NQ (NX ?_)
   refine CT (SR (jK 1 [2] [] ?_))
   refine NN (af.ret (ai.aj (ai.au (ai.aj (ai.aj (ai.au (ai.aj ?_)))))))
   exact RT _ [1] (⟨congrArg (Value.int .i64) (if_neg (c:=aV ns) (fun h=>by have:=(h.ids k (by omega)).2;omega)).symm,rfl⟩)
  refine jQ 3 [42] [] ?_
  refine aU.tf 42 ((((k:Nat):Int):Int) > (0:Int)) (fun _=>by kernel_rfl) (fun iA=>?_) (fun iA=>?_)
  ·refine jQ 13 [55] [(1,a_ 2 b2),(3,a_ 0 b1),(5,wJ ((k:Int) - 1) (↑(k - 1))),(6,x_ (k - 1) ns.length (aB.hd hG (i:=(k - 1)) (by omega))),(8,r_ (aB.rd hG (i:=(k - 1)) (by omega) (j:=0) rfl))] ?_
   refine aU.tf 55 (((nd ns k).id:Int)<=((nd ns (k - 1)).id:Int)) (fun _=>by kernel_rfl) (fun h55=>?_) (fun h55=>?_)
   ·refine jQ 4 [59] [] ?_
    refine NQ (NX ?_)
    refine CT (SR (jK 1 [2] [] ?_))
    refine NN (af.ret (ai.aj (ai.au (ai.aj (ai.aj (ai.au (ai.aj ?_)))))))
    exact RT _ [1] (⟨congrArg (Value.int .i64) (if_neg (c:=aV ns) (fun h=>by have:=h.rise (k - 1) k (by omega) (by omega);omega)).symm,rfl⟩)
   refine jQ 1 [56] [(0,A_ 2 b2 10)] ?_
   refine jU [] [0,1,2] (.bool (decide (ox (nd ns k)))) (IX (nd ns k) (L.dA k) (L.eA k) (L.dC k) (L.eC k) (ht k (by omega))) ?_
   refine jQ 2 [59] [] ?_
   refine NQ (NX ?_)
   refine cN (ox (nd ns k)) (fun JH=>?_) (fun JH=>?_)
   ·refine SR (jK 1 [2] [] ?_)
    refine NN (af.ret (ai.aj (ai.au (ai.aj (ai.aj (ai.au (ai.aj ?_)))))))
    exact RT _ [1] (⟨congrArg (Value.int .i64) (if_neg (c:=aV ns) (fun h=>by exact JH (h.node k (by omega)))).symm,rfl⟩)
   refine af.skip (NX (af.region (jK 6 [3] [(2,a_ 2 b2),(4,wJ (((bJ ns k:Nat):Int)+(((nd ns k).ah.length:Nat):Int)) (↑((bJ ns k)+((nd ns k).ah.length))))] ?_)))
   refine NL (ai.ax (NX (af.region ?_)))
   refine jK 3 [4] [(1,wJ ((k:Int)+1) (↑(k+1)))] ?_
   refine NL ?_
   exact tJ ((k+1)) [0,1] (⟨by omega,hu.step (by rw [NW (by omega)];omega) (by omega) JH,by show bJ ns k+_<=_;omega⟩)
  refine jQ 14 [55,56] [(13,A_ 2 b2 10)] ?_
  refine jU [] [0,1,2] (.bool (decide (ox (nd ns k)))) (IX (nd ns k) (L.dA k) (L.eA k) (L.dC k) (L.eC k) (ht k (by omega))) ?_
  refine jQ 2 [59] [] ?_
  refine NQ (NX ?_)
  refine cN (ox (nd ns k)) (fun JH=>?_) (fun JH=>?_)
  ·refine SR (jK 1 [2] [] ?_)
   refine NN (af.ret (ai.aj (ai.au (ai.aj (ai.aj (ai.au (ai.aj ?_)))))))
   exact RT _ [1] (⟨congrArg (Value.int .i64) (if_neg (c:=aV ns) (fun h=>by exact JH (h.node k (by omega)))).symm,rfl⟩)
  refine af.skip (NX (af.region (jK 6 [3] [(2,a_ 2 b2),(4,wJ (((bJ ns k:Nat):Int)+(((nd ns k).ah.length:Nat):Int)) (↑((bJ ns k)+((nd ns k).ah.length))))] ?_)))
  refine NL (ai.ax (NX (af.region ?_)))
  refine jK 3 [4] [(1,wJ ((k:Int)+1) (↑(k+1)))] ?_
  refine NL ?_
  exact tJ ((k+1)) [0,1] (⟨by omega,hu.step (by rw [show k=0 by omega];rw [show k=0 by omega] at vD;show (0:Int) < _;omega) (by omega) JH,by show bJ ns k+_<=_;omega⟩)
 refine af.exit (ai.aC (ai.aC (ai.aW (NX (af.seq (SR ?_))))))
 refine jK 2 [66] [] ?_
 refine NN (cP ((((bJ ns k:Nat):Int):Int) > (8192:Int)) (fun jm=>?_) (fun jm=>?_))
 ·refine SR (jK 1 [2] [] ?_)
  refine NN (af.ret (ai.aj ?_))
  exact RT _ [1] (⟨congrArg (Value.int .i64) (if_neg (c:=aV ns) (fun h=>by have h1:=h.sum;grind)).symm,rfl⟩)
 refine af.skip (NX (SR (jK 3 [69] [(1,a_ 0 b1)] ?_)))
 refine ak.SB (d:=(some 70)) (t:=38) (e:=3) (z:=.int .i64 0) (bytes:=8) (n:=ns.length) (l:=(.tmp 69)) (c:=(.tmp 69)) (fun _=>by kernel_rfl) (fun _=>by kernel_rfl) (fun _=>by kernel_rfl) Tryz.underlying38 (by kernel_rfl) rfl (by omega) (by omega) (fun b3=>?_)
 refine jK 1 [6] [] ?_
 refine NN (af.seq (SR (ak.bM 2 (p':=.abs (ay 3 1 (some ⟨b3,0,none⟩) ns.length ns.length (gq (List.replicate ns.length 0)))) rfl (by rw [gq,List.map_replicate]) ?_)))
 refine jK 1 [7] [] ?_
 refine NN (af.block ?_)
 refine lJ (fun (t,pl)=>(t<=ns.length)/\(pl.length=ns.length)/\(∀ a,a < t->pl.getD a 0 = -1)) (fun (t,pl)=>ns.length - t) (fun (t,pl)=>[(1,vP b1),(6,.slice (some ⟨b3,0,none⟩) (ns.length) (ns.length)),(7,vI ↑t)]) (fun (t,pl)=>[.blk b1 [.slice A (ns.length) (c)] 24,.abs (ay 3 1 (some ⟨b3,0,none⟩) ns.length ns.length (gq pl)),.abs R]) (0,(List.replicate ns.length 0)) [0,2,1] (⟨Nat.zero_le _,by simp,fun a ha=>absurd ha (Nat.not_lt_zero a)⟩) ?_
 rintro⟨t,pl⟩ ⟨ht2,hpl,hpa⟩
 refine af.seq (SR (jK 4 [74] [] ?_))
 refine NN (cP ((((t:Nat):Int):Int) < (((ns.length:Nat):Int):Int)) (fun L9=>?_) (fun L9=>?_))
 ·refine af.skip (NX (af.seq (af.block (af.region ?_))))
  refine jK 3 [79] [(2,p_ ⟨[],some t,none,none,some (.pointer (some ⟨b3,t,none⟩))⟩ [(Value.pointer (some ⟨b3,0+t * 1,none⟩))=(.pointer (some ⟨b3,t,none⟩)),((t:Nat):Int)=((t:Nat):Int),t < ns.length,(⟨b3,0,none⟩:Addr).spot=none] ⟨by simp,rfl,by omega,rfl,trivial⟩)] ?_
  refine ak.DL 1 (t) (d:=none) (T:=3) (e:=3) (size:=1) (n:=ns.length) (cap:=ns.length) (g:=b3) (xs:=(gq pl)) (u:=.int .i64 (-1)) (a:=(.tmp 79)) (y:=(.const (.int .i64 (-1)))) (fun _=>by kernel_rfl) (by kernel_rfl) (fun _=>by kernel_rfl) (fun _=>by kernel_rfl) (by kernel_rfl) rfl (by rw [gq,List.length_map];omega) ?_
  refine ak.bM 1 rfl (by rw [AL]) ?_
  refine NL (ai.ax (NX (af.region ?_)))
  refine jK 3 [7] [(1,wJ ((t:Int)+1) (↑(t+1)))] ?_
  refine NL ?_
  exact tJ ((t+1),(pl.set t (-1))) [0,1,2] (⟨by omega,by rw [List.length_set];exact hpl,fun a ha=>(by grind [JD])⟩)
 refine af.exit (ai.aC (ai.aC (ai.aW (NX (af.seq (SR ?_))))))
 refine jK 1 [8] [] ?_
 refine NN (af.block ?_)
 have yD:bH ns:=fun a b hab hb=>hu.rise a b hab (by omega)
 have hsum:bJ ns ns.length<=8192:=by rw [show ns.length=k by omega];omega
 refine lJ (fun (i,r9)=>(i<=ns.length)/\(∀ a,a < i->∀ j,j < (nd ns a).ah.length->tu ns a j)/\(((fW ns i).map Prod.fst).Nodup)/\(JC ns.length r9 (fW ns i))) (fun (i,r9)=>ns.length - i) (fun (i,r9)=>[(1,vP b1),(6,.slice (some ⟨b3,0,none⟩) (ns.length) (ns.length)),(8,vI ↑i)]) (fun (i,r9)=>[.blk b1 [.slice A (ns.length) (c)] 24,.abs (ay 3 1 (some ⟨b3,0,none⟩) ns.length ns.length (gq r9)),.abs R]) (0,pl) [0,1,2] (⟨Nat.zero_le _,fun a ha=>absurd ha (Nat.not_lt_zero a),List.nodup_nil,⟨hpl,fun a ha=>hpa a (by omega)⟩⟩) ?_
 rintro⟨i,r9⟩ ⟨hi,wv,hnd,hpar⟩
 refine af.seq (SR (jK 5 [84] [(2,a_ 0 b1)] ?_))
 refine NN (cP ((((i:Nat):Int):Int) < (((ns.length:Nat):Int):Int)) (fun h84=>?_) (fun h84=>?_))
 ·refine af.skip (NX (af.seq (af.block (SR ?_))))
  refine jK 1 [9] [] ?_
  refine NN (af.block ?_)
  refine lJ (fun (j,qw)=>(j<=(nd ns i).ah.length)/\(∀ t,t < j->tu ns i t)/\(((ez ns i j++fW ns i).map Prod.fst).Nodup)/\(JC ns.length qw (ez ns i j++fW ns i))) (fun (j,qw)=>(nd ns i).ah.length - j) (fun (j,qw)=>[(1,vP b1),(6,.slice (some ⟨b3,0,none⟩) (ns.length) (ns.length)),(8,vI ↑i),(9,vI ↑j)]) (fun (j,qw)=>[.blk b1 [.slice A (ns.length) (c)] 24,.abs (ay 3 1 (some ⟨b3,0,none⟩) ns.length ns.length (gq qw)),.abs R]) (0,r9) [0,1,2] (⟨Nat.zero_le _,fun t ht=>absurd ht (Nat.not_lt_zero t),hnd,hpar⟩) ?_
  rintro⟨j,qw⟩ ⟨hj,hok,rJ,tv⟩
  have hd3:=(hd i (by omega)).2
  have hln:=tv.len
  refine af.seq (SR (jK 9 [95] [(2,a_ 0 b1),(4,x_ i ns.length (aB.hd hG (i:=i) (by omega))),(6,r_ (aB.rd hG (i:=i) (by omega) (j:=9) rfl))] ?_))
  refine NN (cP ((((j:Nat):Int):Int) < ((((nd ns i).ah.length:Nat):Int):Int)) (fun h95=>?_) (fun h95=>?_))
  ·refine af.skip (NX (af.seq (af.block (SR ?_))))
   refine jN 11 [10] (fun b4=>[(1,a_ 0 b1),(3,x_ i ns.length (aB.hd hG (i:=i) (by omega))),(5,r_ (aB.rd hG (i:=i) (by omega) (j:=9) rfl)),(7,x_ j ((nd ns i).ah.length) (bg.hd (hG.ah i (by omega)) (i:=j) (by omega))),(8,p_ ⟨[.old (.string (en (nd ns i).ah j).name),.old (.int .i64 ((en (nd ns i).ah j).id))],none,none,none,none⟩ [(Rd β ⟨(aP (L.eA i)),aO (L.eA i)+j * 2+1,none⟩ (.int .i64 ((en (nd ns i).ah j).id))),(Rd β ⟨(aP (L.eA i)),aO (L.eA i)+j * 2,none⟩ (.string (en (nd ns i).ah j).name))] ⟨bg.rd (hG.ah i (by omega)) (i:=j) (by omega) (j:=1) rfl,bg.rd (hG.ah i (by omega)) (i:=j) (by omega) (j:=0) rfl,trivial⟩),(10,A_ 3 b4 2)]) (fun _=>[]) (fun b4=>.blk b4 [.string (en (nd ns i).ah j).name,vI ((en (nd ns i).ah j).id)] 68) (fun b4=>?_)
   refine NS (jK 3 [107,109] [(0,a_ 0 b1),(2,a_ 3 b4)] ?_)
   refine gL [] (DV A c ns L hG yD hl (en (nd ns i).ah j).id) ?_
   rintro _ _ ⟨rfl,rfl⟩
   refine jK 1 [11] [] ?_
   refine NN (af.seq (af.seq (af.bF (by kernel_rfl) (by kernel_rfl) ?_)))
   refine jQ 3 [113] [] ?_
   refine aU.tf 113 ((fP ns (en (nd ns i).ah j).id:Int) < (0:Int)) (fun _=>by kernel_rfl) (fun Fz=>?_) (fun Fz=>?_)
   ·refine jQ 25 [138] [] ?_
    refine NQ (NX ?_)
    refine CT (SR (jK 1 [2] [] ?_))
    refine NN (af.ret (ai.aj (ai.au (ai.aj (ai.aj (ai.au (ai.au (ai.aj (ai.aj (ai.au (ai.aj ?_)))))))))))
    exact RT _ [2] (⟨congrArg (Value.int .i64) (if_neg (c:=aV ns) (fun h=>by have h1:=(h.ah i (by omega) j (by omega)).at_;change 0<=fP ns (en (nd ns i).ah j).id at h1;omega)).symm,rfl⟩)
   have htl:=kg (Int.not_lt.1 Fz)
   refine jQ 2 [115] [(1,a_ 3 b4)] ?_
   refine jU [] [0,1,2,3] (.bool (decide (bO (en (nd ns i).ah j).name))) (DU (en (nd ns i).ah j).name (hnm i (by omega) j (by omega))) ?_
   refine jQ 3 [119] [] ?_
   refine aU.Ng 119 (bO (en (nd ns i).ah j).name) (fun _=>by kernel_rfl) (fun FA=>?_) (fun FA=>?_)
   ·refine jQ 19 [138] [] ?_
    refine NQ (NX ?_)
    refine CT (SR (jK 1 [2] [] ?_))
    refine NN (af.ret (ai.aj (ai.au (ai.aj (ai.aj (ai.au (ai.au (ai.aj (ai.aj (ai.au (ai.aj ?_)))))))))))
    exact RT _ [2] (⟨congrArg (Value.int .i64) (if_neg (c:=aV ns) (fun h=>by exact FA (h.ah i (by omega) j (by omega)).good)).symm,rfl⟩)
   refine jQ 3 [122] [] ?_
   refine aU.tf 122 ((((j:Nat):Int):Int) > (0:Int)) (fun _=>by kernel_rfl) (fun aa0=>?_) (fun aa0=>?_)
   ·refine jQ 16 [138] [(1,a_ 3 b4),(3,a_ 0 b1),(5,x_ i ns.length (aB.hd hG (i:=i) (by omega))),(7,r_ (aB.rd hG (i:=i) (by omega) (j:=9) rfl)),(9,wJ ((j:Int) - 1) (↑(j - 1))),(10,x_ (j - 1) ((nd ns i).ah.length) (bg.hd (hG.ah i (by omega)) (i:=(j - 1)) (by omega))),(12,r_ (bg.rd (hG.ah i (by omega)) (i:=(j - 1)) (by omega) (j:=0) rfl)),(13,p_ ⟨[],none,none,none,some (.bool (decide (eH ((en (nd ns i).ah j).name) ((en (nd ns i).ah (j - 1)).name))))⟩ [(Value.bool (Op.bytesLess (((en (nd ns i).ah j).name):ByteArray).toList (((en (nd ns i).ah (j - 1)).name):ByteArray).toList || (((en (nd ns i).ah j).name):ByteArray).toList == (((en (nd ns i).ah (j - 1)).name):ByteArray).toList))=(.bool (decide (eH ((en (nd ns i).ah j).name) ((en (nd ns i).ah (j - 1)).name))))] ⟨I6 _ _,trivial⟩)] ?_
    refine NQ (NX ?_)
    refine cP (eH ((en (nd ns i).ah j).name) ((en (nd ns i).ah (j - 1)).name)) (fun NY=>?_) (fun NY=>?_)
    ·refine SR (jK 1 [2] [] ?_)
     refine NN (af.ret (ai.aj (ai.au (ai.aj (ai.aj (ai.au (ai.au (ai.aj (ai.aj (ai.au (ai.aj ?_)))))))))))
     exact RT _ [2] (⟨congrArg (Value.int .i64) (if_neg (c:=aV ns) (fun h=>by have h1:=(h.ah i (by omega) j (by omega)).ord;rw [JG (by omega)] at h1;exact h1 NY)).symm,rfl⟩)
    refine af.skip (NX (SR (jK 7 [145] [(1,a_ 0 b1),(3,p_ ⟨[],some (tgt ns (en (nd ns i).ah j).id),none,some ⟨(aP A),aO A,none⟩,none⟩ [fP ns (en (nd ns i).ah j).id=(((tgt ns (en (nd ns i).ah j).id):Nat):Int),(tgt ns (en (nd ns i).ah j).id) < ns.length,(⟨(aP A),aO A,none⟩:Addr).spot=none,(A:Option Addr)=some ⟨(aP A),aO A,none⟩] ⟨htl.2.2,by omega,rfl,aB.hd hG (i:=(tgt ns (en (nd ns i).ah j).id)) (by omega),trivial⟩),(5,r_ (aB.rd hG (i:=(tgt ns (en (nd ns i).ah j).id)) (by omega) (j:=1) rfl))] ?_)))
    refine NN (cP (((nd ns (tgt ns (en (nd ns i).ah j).id)).kind:Int)=(2:Int)) (fun lq=>?_) (fun lq=>?_))
    ·refine af.seq (SR (jK 5 [150] [(2,p_ ⟨[],some (tgt ns (en (nd ns i).ah j).id),none,none,some (.pointer (some ⟨b3,(tgt ns (en (nd ns i).ah j).id),none⟩))⟩ [(Value.pointer (some ⟨b3,0+(tgt ns (en (nd ns i).ah j).id) * 1,none⟩))=(.pointer (some ⟨b3,(tgt ns (en (nd ns i).ah j).id),none⟩)),fP ns (en (nd ns i).ah j).id=(((tgt ns (en (nd ns i).ah j).id):Nat):Int),(tgt ns (en (nd ns i).ah j).id) < ns.length,(⟨b3,0,none⟩:Addr).spot=none] ⟨by simp,htl.2.2,by omega,rfl,trivial⟩),(3,p_ ⟨[.view 1 (.int .i64 ((qw.getD (tgt ns (en (nd ns i).ah j).id) 0)))],none,none,none,none⟩ [(∀ F w,(ay 3 1 (some ⟨b3,0,none⟩) ns.length ns.length (gq qw)).h F w->w.cell? ⟨b3,(tgt ns (en (nd ns i).ah j).id),none⟩=some (vI ((qw.getD (tgt ns (en (nd ns i).ah j).id) 0))))] ⟨ay.cell (wz (by omega)),trivial⟩)] ?_))
     refine NN (cP (((qw.getD (tgt ns (en (nd ns i).ah j).id) 0):Int) ≥ (0:Int)) (fun TG=>?_) (fun TG=>?_))
     ·refine SR (jK 1 [2] [] ?_)
      refine NN (af.ret (ai.aj (ai.au (ai.aj (ai.aj (ai.au (ai.au (ai.aj (ai.aj (ai.au (ai.aj ?_)))))))))))
      exact RT _ [2] (⟨congrArg (Value.int .i64) (if_neg (c:=aV ns) (fun h=>by have h1:yE (ez ns i j++fW ns i) (tgt ns (en (nd ns i).ah j).id) < 0:=wA.2 (xu (h.row (by omega)) (by omega) lq);rw [← tv.at_ (tgt ns (en (nd ns i).ah j).id) (by omega)] at h1;omega)).symm,rfl⟩)
     refine af.skip (NX (af.region (jK 4 [153,154] [(3,p_ ⟨[],some (tgt ns (en (nd ns i).ah j).id),none,none,some (.pointer (some ⟨b3,(tgt ns (en (nd ns i).ah j).id),none⟩))⟩ [(Value.pointer (some ⟨b3,0+(tgt ns (en (nd ns i).ah j).id) * 1,none⟩))=(.pointer (some ⟨b3,(tgt ns (en (nd ns i).ah j).id),none⟩)),fP ns (en (nd ns i).ah j).id=(((tgt ns (en (nd ns i).ah j).id):Nat):Int),(tgt ns (en (nd ns i).ah j).id) < ns.length,(⟨b3,0,none⟩:Addr).spot=none] ⟨by simp,htl.2.2,by omega,rfl,trivial⟩)] ?_)))
     refine ak.DL 1 ((tgt ns (en (nd ns i).ah j).id)) (d:=none) (T:=3) (e:=3) (size:=1) (n:=ns.length) (cap:=ns.length) (g:=b3) (xs:=(gq qw)) (u:=.int .i64 ↑i) (a:=(.tmp 154)) (y:=(.tmp 153)) (fun _=>by kernel_rfl) (by kernel_rfl) (fun _=>by kernel_rfl) (fun _=>by kernel_rfl) (by kernel_rfl) rfl (by rw [gq,List.length_map];omega) ?_
     refine ak.bM 1 rfl (by rw [AL]) ?_
     refine NL (ai.ax (NX (af.region ?_)))
     refine jK 3 [9] [(1,wJ ((j:Int)+1) (↑(j+1)))] ?_
     refine NL ?_
     exact tJ ((j+1),(qw.set (tgt ns (en (nd ns i).ah j).id) ((i:Nat):Int))) [0,1,2] (⟨by omega,fun t ht=>(by rcases Nat.lt_succ_iff_lt_or_eq.1 ht with h|h;exact hok t h;subst h;exact yG (Int.not_lt.1 Fz) FA (fun _=>NY)),(by rw [mD lq,List.cons_append,List.map_cons];exact List.nodup_cons.2 ⟨show tgt ns (en (nd ns i).ah j).id∉_ from wA.1 (by rw [← tv.at_ (tgt ns (en (nd ns i).ah j).id) (by omega)];omega),rJ⟩),(by rw [mD lq];exact tv.put (by omega))⟩)
    refine af.skip (ai.ax (NX (af.region ?_)))
    refine jK 3 [9] [(1,wJ ((j:Int)+1) (↑(j+1)))] ?_
    refine NL ?_
    exact tJ ((j+1),qw) [0,1,2] (⟨by omega,fun t ht=>(by rcases Nat.lt_succ_iff_lt_or_eq.1 ht with h|h;exact hok t h;subst h;exact yG (Int.not_lt.1 Fz) FA (fun _=>NY)),(by rw [nK lq];exact rJ),(by rw [nK lq];exact tv)⟩)
   refine jQ 16 [138] [] ?_
   refine NQ (NX ?_)
   refine CF (af.skip (NX (SR (jK 7 [145] [(1,a_ 0 b1),(3,p_ ⟨[],some (tgt ns (en (nd ns i).ah j).id),none,some ⟨(aP A),aO A,none⟩,none⟩ [fP ns (en (nd ns i).ah j).id=(((tgt ns (en (nd ns i).ah j).id):Nat):Int),(tgt ns (en (nd ns i).ah j).id) < ns.length,(⟨(aP A),aO A,none⟩:Addr).spot=none,(A:Option Addr)=some ⟨(aP A),aO A,none⟩] ⟨htl.2.2,by omega,rfl,aB.hd hG (i:=(tgt ns (en (nd ns i).ah j).id)) (by omega),trivial⟩),(5,r_ (aB.rd hG (i:=(tgt ns (en (nd ns i).ah j).id)) (by omega) (j:=1) rfl))] ?_))))
   refine NN (cP (((nd ns (tgt ns (en (nd ns i).ah j).id)).kind:Int)=(2:Int)) (fun lq=>?_) (fun lq=>?_))
   ·refine af.seq (SR (jK 5 [150] [(2,p_ ⟨[],some (tgt ns (en (nd ns i).ah j).id),none,none,some (.pointer (some ⟨b3,(tgt ns (en (nd ns i).ah j).id),none⟩))⟩ [(Value.pointer (some ⟨b3,0+(tgt ns (en (nd ns i).ah j).id) * 1,none⟩))=(.pointer (some ⟨b3,(tgt ns (en (nd ns i).ah j).id),none⟩)),fP ns (en (nd ns i).ah j).id=(((tgt ns (en (nd ns i).ah j).id):Nat):Int),(tgt ns (en (nd ns i).ah j).id) < ns.length,(⟨b3,0,none⟩:Addr).spot=none] ⟨by simp,htl.2.2,by omega,rfl,trivial⟩),(3,p_ ⟨[.view 1 (.int .i64 ((qw.getD (tgt ns (en (nd ns i).ah j).id) 0)))],none,none,none,none⟩ [(∀ F w,(ay 3 1 (some ⟨b3,0,none⟩) ns.length ns.length (gq qw)).h F w->w.cell? ⟨b3,(tgt ns (en (nd ns i).ah j).id),none⟩=some (vI ((qw.getD (tgt ns (en (nd ns i).ah j).id) 0))))] ⟨ay.cell (wz (by omega)),trivial⟩)] ?_))
    refine NN (cP (((qw.getD (tgt ns (en (nd ns i).ah j).id) 0):Int) ≥ (0:Int)) (fun TG=>?_) (fun TG=>?_))
    ·refine SR (jK 1 [2] [] ?_)
     refine NN (af.ret (ai.aj (ai.au (ai.aj (ai.aj (ai.au (ai.au (ai.aj (ai.aj (ai.au (ai.aj ?_)))))))))))
     exact RT _ [2] (⟨congrArg (Value.int .i64) (if_neg (c:=aV ns) (fun h=>by have h1:yE (ez ns i j++fW ns i) (tgt ns (en (nd ns i).ah j).id) < 0:=wA.2 (xu (h.row (by omega)) (by omega) lq);rw [← tv.at_ (tgt ns (en (nd ns i).ah j).id) (by omega)] at h1;omega)).symm,rfl⟩)
    refine af.skip (NX (af.region (jK 4 [153,154] [(3,p_ ⟨[],some (tgt ns (en (nd ns i).ah j).id),none,none,some (.pointer (some ⟨b3,(tgt ns (en (nd ns i).ah j).id),none⟩))⟩ [(Value.pointer (some ⟨b3,0+(tgt ns (en (nd ns i).ah j).id) * 1,none⟩))=(.pointer (some ⟨b3,(tgt ns (en (nd ns i).ah j).id),none⟩)),fP ns (en (nd ns i).ah j).id=(((tgt ns (en (nd ns i).ah j).id):Nat):Int),(tgt ns (en (nd ns i).ah j).id) < ns.length,(⟨b3,0,none⟩:Addr).spot=none] ⟨by simp,htl.2.2,by omega,rfl,trivial⟩)] ?_)))
    refine ak.DL 1 ((tgt ns (en (nd ns i).ah j).id)) (d:=none) (T:=3) (e:=3) (size:=1) (n:=ns.length) (cap:=ns.length) (g:=b3) (xs:=(gq qw)) (u:=.int .i64 ↑i) (a:=(.tmp 154)) (y:=(.tmp 153)) (fun _=>by kernel_rfl) (by kernel_rfl) (fun _=>by kernel_rfl) (fun _=>by kernel_rfl) (by kernel_rfl) rfl (by rw [gq,List.length_map];omega) ?_
    refine ak.bM 1 rfl (by rw [AL]) ?_
    refine NL (ai.ax (NX (af.region ?_)))
    refine jK 3 [9] [(1,wJ ((j:Int)+1) (↑(j+1)))] ?_
    refine NL ?_
    exact tJ ((j+1),(qw.set (tgt ns (en (nd ns i).ah j).id) ((i:Nat):Int))) [0,1,2] (⟨by omega,fun t ht=>(by rcases Nat.lt_succ_iff_lt_or_eq.1 ht with h|h;exact hok t h;subst h;exact yG (Int.not_lt.1 Fz) FA (fun h=>absurd h (by omega))),(by rw [mD lq,List.cons_append,List.map_cons];exact List.nodup_cons.2 ⟨show tgt ns (en (nd ns i).ah j).id∉_ from wA.1 (by rw [← tv.at_ (tgt ns (en (nd ns i).ah j).id) (by omega)];omega),rJ⟩),(by rw [mD lq];exact tv.put (by omega))⟩)
   refine af.skip (ai.ax (NX (af.region ?_)))
   refine jK 3 [9] [(1,wJ ((j:Int)+1) (↑(j+1)))] ?_
   refine NL ?_
   exact tJ ((j+1),qw) [0,1,2] (⟨by omega,fun t ht=>(by rcases Nat.lt_succ_iff_lt_or_eq.1 ht with h|h;exact hok t h;subst h;exact yG (Int.not_lt.1 Fz) FA (fun h=>absurd h (by omega))),(by rw [nK lq];exact rJ),(by rw [nK lq];exact tv)⟩)
  refine af.exit (ai.aC (ai.aC (ai.aW (ai.ax (NX (af.region ?_))))))
  refine jK 3 [8] [(1,wJ ((i:Int)+1) (↑(i+1)))] ?_
  refine NL ?_
  exact tJ ((i+1),qw) [0,1,2] (⟨by omega,fun a ha=>(by grind),(by have:=rJ;rwa [show j=(nd ns i).ah.length by omega] at this),(by have:=tv;rwa [show j=(nd ns i).ah.length by omega] at this)⟩)
 refine af.exit (ai.aC (ai.aC (ai.aW (NX (af.seq (SR ?_))))))
 refine jK 1 [12] [] ?_
 refine NN (af.block ?_)
 have Vr:JC ns.length r9 (fW ns ns.length):=by grind
 have hed:=vE (ns:=ns) (Nat.le_refl _) (fun a ha=>wv a (by omega))
 refine lJ (fun (a:Nat)=>(a<=ns.length)/\(∀ b,b < a->Ends ((fW ns ns.length).map (iQ ns)) (nd ns b).id)) (fun (a:Nat)=>ns.length - a) (fun (a:Nat)=>[(6,.slice (some ⟨b3,0,none⟩) (ns.length) (ns.length)),(12,vI ↑a)]) (fun (a:Nat)=>[.abs (ay 3 1 (some ⟨b3,0,none⟩) ns.length ns.length (gq r9)),.abs R]) 0 [1,2] (⟨Nat.zero_le _,fun b hb=>absurd hb (Nat.not_lt_zero b)⟩) ?_
 rintro a ⟨ha,hend⟩
 have hln:=hpar.len
 refine af.seq (SR (jK 4 [158] [] ?_))
 refine NN (cP ((((a:Nat):Int):Int) < (((ns.length:Nat):Int):Int)) (fun aa1=>?_) (fun aa1=>?_))
 ·refine af.skip (NX (af.seq (af.block (SR ?_))))
  refine jK 5 [13] [(2,p_ ⟨[],some a,none,none,some (.pointer (some ⟨b3,a,none⟩))⟩ [(Value.pointer (some ⟨b3,0+a * 1,none⟩))=(.pointer (some ⟨b3,a,none⟩)),((a:Nat):Int)=((a:Nat):Int),a < ns.length,(⟨b3,0,none⟩:Addr).spot=none] ⟨by simp,rfl,by omega,rfl,trivial⟩),(3,p_ ⟨[.view 0 (.int .i64 ((r9.getD a 0)))],none,none,none,none⟩ [(∀ F w,(ay 3 1 (some ⟨b3,0,none⟩) ns.length ns.length (gq r9)).h F w->w.cell? ⟨b3,a,none⟩=some (vI ((r9.getD a 0))))] ⟨ay.cell (wz (by omega)),trivial⟩)] ?_
  refine NS (jK 1 [14] [] ?_)
  refine NN (af.block ?_)
  refine lJ (fun (at_,step,w)=>((at_ < 0/\Ends ((fW ns ns.length).map (iQ ns)) (nd ns a).id)\/∃ q:Nat,at_=(q:Int)/\q < ns.length/\Way ((fW ns ns.length).map (iQ ns)) (nd ns a).id w (nd ns q).id/\w.length=step+1)) (fun (at_,step,w)=>ns.length+2 - step) (fun (at_,step,w)=>[(6,.slice (some ⟨b3,0,none⟩) (ns.length) (ns.length)),(12,vI ↑a),(13,vI (at_)),(14,vI ↑step)]) (fun (at_,step,w)=>[.abs (ay 3 1 (some ⟨b3,0,none⟩) ns.length ns.length (gq r9)),.abs R]) ((r9.getD a 0),0,[(nd ns a).id]) [0,1] (JF yD hed Vr (by omega) .nil rfl) ?_
  rintro⟨at_,step,w⟩ hst
  refine af.seq (SR (jK 2 [166] [] ?_))
  refine NN (cP ((at_:Int) ≥ (0:Int)) (fun aa2=>?_) (fun aa2=>?_))
  ·obtain⟨b,hb0,hb1,hb2,hb3⟩:=hst.resolve_left (fun h=>by omega)
   refine af.skip (NX (af.seq (af.block (af.seq (SR ?_)))))
   refine jK 4 [172] [] ?_
   refine sP 172 ((at_:Int)=(((a:Nat):Int):Int)) (fun aa3=>?_) (fun aa3=>?_)
   ·refine jK 5 [177] [] ?_
    refine NN (CT (SR (jK 1 [2] [] ?_)))
    refine NN (af.ret (ai.aj (ai.au (ai.aj (ai.aj (ai.au (ai.au (ai.aj (ai.aj (ai.au (ai.aj ?_)))))))))))
    exact RT _ [1] (⟨congrArg (Value.int .i64) (if_neg (c:=aV ns) (fun h=>by rw [show b=a by omega] at hb2;exact hb2.back (by omega) (h.ends _))).symm,rfl⟩)
   refine jK 5 [177] [] ?_
   refine NN (cP ((((step:Nat):Int):Int) > (((ns.length:Nat):Int):Int)) (fun aa4=>?_) (fun aa4=>?_))
   ·refine SR (jK 1 [2] [] ?_)
    refine NN (af.ret (ai.aj (ai.au (ai.aj (ai.aj (ai.au (ai.au (ai.aj (ai.aj (ai.au (ai.aj ?_)))))))))))
    exact RT _ [1] (⟨congrArg (Value.int .i64) (if_neg (c:=aV ns) (fun h=>by exact hb2.never (by have:=h.few;omega) (h.ends _))).symm,rfl⟩)
   refine af.skip (NX (af.region (jK 5 [13] [(2,p_ ⟨[],some b,none,none,some (.pointer (some ⟨b3,b,none⟩))⟩ [(Value.pointer (some ⟨b3,0+b * 1,none⟩))=(.pointer (some ⟨b3,b,none⟩)),at_=((b:Nat):Int),b < ns.length,(⟨b3,0,none⟩:Addr).spot=none] ⟨by simp,hb0,by omega,rfl,trivial⟩),(3,p_ ⟨[.view 0 (.int .i64 ((r9.getD b 0)))],none,none,none,none⟩ [(∀ F w,(ay 3 1 (some ⟨b3,0,none⟩) ns.length ns.length (gq r9)).h F w->w.cell? ⟨b3,b,none⟩=some (vI ((r9.getD b 0))))] ⟨ay.cell (wz (by omega)),trivial⟩)] ?_)))
   refine NL (ai.ax (NX (af.region ?_)))
   refine jK 3 [14] [(1,wJ ((step:Int)+1) (↑(step+1)))] ?_
   refine NL ?_
   exact tJ ((r9.getD b 0),(step+1),(w++[(nd ns b).id])) [0,1] (JF yD hed Vr hb1 hb2 hb3)
  refine af.exit (ai.aC (ai.aC (ai.aW (ai.ax (NX (af.region ?_))))))
  refine jK 3 [12] [(1,wJ ((a:Int)+1) (↑(a+1)))] ?_
  refine NL ?_
  exact tJ ((a+1)) [0,1] (⟨by omega,fun b hb=>by grind⟩)
 refine af.exit (ai.aC (ai.aC (ai.aW (NX (SR ?_)))))
 refine jK 1 [2] [] ?_
 refine NN (af.ret ?_)
 exact RT _ [1] (⟨congrArg (Value.int .i64) (if_pos (c:=aV ns) ⟨by omega,fun a ha=>hu.node a (by omega),fun a ha=>hu.ids a (by omega),yD,by omega,fun a ha=>wv a (by omega),by grind,Qh (fun p hp=>(hed p hp).1) (fun b hb=>hend b (by omega))⟩).symm,rfl⟩)
end
section
open Go.RowKit
theorem B0.refl (W:World):(B0 W).le (B0 W):=⟨fun _ h=>h,rfl,rfl,rfl,Nat.le_refl _,fun _ hk=>⟨hk,rfl⟩⟩
theorem Spec.val {P:Program} {β:Bs} {f:FuncId} {args:Array Value} {pre:List HP} {x y:Value} {l0:List HP} (h:Spec P β f args pre (fun v l=>v=x/\l=l0)) (e:x=y):Spec P β f args pre (fun v l=>v=y/\l=l0):=h.mono fun _ _ h=>⟨h.1.trans e,h.2⟩
section gb
variable {ns:List aA} {b:Nat}
variable (h:lg ns 1048576)
include h
end gb
structure abT (ns:List aA):Prop where
  hl:ns.length<=1048576
  hd:∀ i,i < ns.length->(nd ns i).data.length<=140737488355328/\(nd ns i).ah.length<=1048576
  hwf:∀ i,i < ns.length->∀ j,j < (nd ns i).ah.length->-9223372036854775808<=(ent ns i j).id/\(ent ns i j).id<=9223372036854775807
  hnm:∀ i,i < ns.length->∀ j,j < (nd ns i).ah.length->(ent ns i j).name.size<=1048576
  ids:∀ i,i < ns.length->ur (nd ns i).id
def L0:Lay:=⟨fun _=>none,fun _=>none,fun _=>0,fun _=>0⟩
theorem bT.nil {β:Bs} {A:Option Addr}:bT β A []:=fun j v hj=>by simp at hj
end
section
open Go.RowKit Go.Maps
def aap (l:List ByteArray):List Value:=l.map Value.string
def sAt (l:List ByteArray) (i:Nat):ByteArray:=l.getD i ⟨#[]⟩
def abU (β:Bs) (A:Option Addr) (l:List ByteArray):Prop:=bT β A (aap l)
section strs
variable {β β':Bs} {A:Option Addr} {l:List ByteArray}
end strs
def Sorted (es:List cW):Prop:=∀ i j,i < j->j < es.length->rE (en es i).name (en es j).name < 0
def wB (es:List cW) (p:ByteArray):Option Nat:=es.findIdx? (fun e=>decide (e.name=p))
theorem NZ {es:List cW} {p:ByteArray} (h:∀ j,j < es.length->¬ (en es j).name=p):wB es p=none:=by
  unfold wB
  rw [List.findIdx?_eq_none_iff]
  intro x hx
  obtain⟨j,hj,rfl⟩:=List.getElem_of_mem hx
  grind [en]
section find
variable {ns:List aA} {k i:Nat} {ps:List ByteArray}
end find
end
section
open Go.RowKit
def fq (es:List cW) (id:Int):Nat->Nat
  | 0=>0
  | j+1=>fq es id j+(if (en es j).id=id then 1 else 0)
def jV (ns:List aA) (id:Int):Nat->Nat
  | 0=>0
  | i+1=>jV ns id i+fq (nd ns i).ah id (nd ns i).ah.length
theorem GK (es:List cW) (id:Int) (j:Nat):fq es id j<=j:=by
  induction j with
  | zero=>exact Nat.le_refl _
  | succ j ih=>
    rw [fq]
    split<;>omega
theorem En {es:List cW} {id:Int} {j:Nat} (h:(en es j).id=id):fq es id j+1=fq es id (j+1):=by rw [fq,if_pos h]
theorem Cu {es:List cW} {id:Int} {j:Nat} (h:¬ (en es j).id=id):fq es id j=fq es id (j+1):=by rw [fq,if_neg h];rfl
theorem N0 (ns:List aA) (id:Int) (i:Nat):jV ns id i<=bJ ns i:=by
  induction i with
  | zero=>exact Nat.le_refl _
  | succ i ih=>
    grind [jV,bJ,GK,nd]
end
end Go.Proofs.YtnipofpbcggjcaaGreat
section
namespace Go.Proofs
open Go.Shelf
def Tryz.keysS_ren:Go.Shelf.Ren:=⟨fun|7=>52|10=>102|n=>n,fun|23=>95|26=>9|3=>82|28=>131|0=>0|27=>130|33=>144|4=>4|n=>n,fun|n=>n⟩
theorem Tryz.keysS:Go.Proofs.SlLaysZ.n7 Tryz.prog Tryz.keysS_ren:={
  mixed:=by kernel_rfl
  f7:=⟨Tryz.f52.name,by decide,Tryz.func52.trans (congrArg some (by kernel_rfl))⟩
  f10:=⟨Tryz.f102.name,by decide,Tryz.func102.trans (congrArg some (by kernel_rfl))⟩
  t0:=Tryz.underlying0
  a0:=Tryz.isAgg0
  z0:=Tryz.sizeOf0
  v0:=Tryz.zeroValue0
  t4:=Tryz.underlying4
  a4:=Tryz.isAgg4
  z4:=Tryz.sizeOf4
  v4:=Tryz.zeroValue4
  t23:=Tryz.underlying95
  a23:=Tryz.isAgg95
  z23:=Tryz.sizeOf95
  v23:=Tryz.zeroValue95
  t26:=Tryz.underlying9
  a26:=Tryz.isAgg9
  z26:=Tryz.sizeOf9
  v26:=Tryz.zeroValue9
  t27:=Tryz.underlying130
  a27:=Tryz.isAgg130
  z27:=Tryz.sizeOf130
  v27:=Tryz.zeroValue130
  t28:=Tryz.underlying131
  a28:=Tryz.isAgg131
  z28:=Tryz.sizeOf131
  v28:=Tryz.zeroValue131
  t33:=Tryz.underlying144
  a33:=Tryz.isAgg144
  z33:=Tryz.sizeOf144
  v33:=Tryz.zeroValue144 }
def Tryz.sortedS_ren:Go.Shelf.Ren:=⟨fun|6=>51|8=>100|9=>101|11=>137|13=>136|12=>138|23=>161|24=>162|14=>163|15=>164|16=>165|17=>166|18=>167|19=>168|20=>169|21=>170|22=>171|25=>182|26=>177|27=>178|28=>183|29=>184|30=>185|31=>190|n=>n,fun|26=>9|28=>131|24=>128|0=>0|3=>3|37=>198|48=>218|50=>220|4=>4|40=>212|39=>211|45=>202|5=>5|9=>9|51=>233|55=>237|57=>245|58=>246|33=>144|n=>n,fun|n=>n⟩
theorem Tryz.sortedS:Go.Proofs.SlLaysZ.n6 Tryz.prog Tryz.sortedS_ren:={
  mixed:=by kernel_rfl
  f6:=⟨Tryz.f51.name,by decide,Tryz.func51.trans (congrArg some (by kernel_rfl))⟩
  f8:=⟨Tryz.f100.name,by decide,Tryz.func100.trans (congrArg some (by kernel_rfl))⟩
  f11:=⟨Tryz.f137.name,by decide,Tryz.func137.trans (congrArg some (by kernel_rfl))⟩
  t0:=Tryz.underlying0
  a0:=Tryz.isAgg0
  z0:=Tryz.sizeOf0
  v0:=Tryz.zeroValue0
  t24:=Tryz.underlying128
  a24:=Tryz.isAgg128
  z24:=Tryz.sizeOf128
  v24:=Tryz.zeroValue128
  t26:=Tryz.underlying9
  a26:=Tryz.isAgg9
  z26:=Tryz.sizeOf9
  v26:=Tryz.zeroValue9
  t28:=Tryz.underlying131
  a28:=Tryz.isAgg131
  z28:=Tryz.sizeOf131
  v28:=Tryz.zeroValue131
  i26:=by kernel_rfl }
def Tryz.sortS_ren:Go.Shelf.Ren:=⟨fun|6=>101|8=>136|9=>138|19=>161|20=>162|21=>163|22=>164|23=>165|24=>166|25=>167|26=>168|27=>169|28=>170|29=>171|36=>182|31=>177|32=>178|37=>183|38=>184|39=>185|41=>190|n=>n,fun|27=>128|29=>9|3=>3|32=>198|26=>128|0=>0|44=>218|46=>220|4=>4|36=>212|35=>211|41=>202|5=>5|9=>9|53=>233|57=>237|63=>245|64=>246|n=>n,fun|n=>n⟩
theorem Tryz.sortS:Go.Proofs.SlLaysM.n6 Tryz.prog Tryz.sortS_ren:={
  mixed:=by kernel_rfl
  f6:=⟨Tryz.f101.name,by decide,Tryz.func101.trans (congrArg some (by kernel_rfl))⟩
  f8:=Tryz.func136.trans (congrArg some (by kernel_rfl))
  f9:=⟨Tryz.f138.name,by decide,Tryz.func138.trans (congrArg some (by kernel_rfl))⟩
  f19:=Tryz.func161.trans (congrArg some (by kernel_rfl))
  f20:=Tryz.func162.trans (congrArg some (by kernel_rfl))
  f21:=⟨Tryz.f163.name,by decide,Tryz.func163.trans (congrArg some (by kernel_rfl))⟩
  f22:=⟨Tryz.f164.name,by decide,Tryz.func164.trans (congrArg some (by kernel_rfl))⟩
  f23:=⟨Tryz.f165.name,by decide,Tryz.func165.trans (congrArg some (by kernel_rfl))⟩
  f24:=⟨Tryz.f166.name,by decide,Tryz.func166.trans (congrArg some (by kernel_rfl))⟩
  f25:=⟨Tryz.f167.name,by decide,Tryz.func167.trans (congrArg some (by kernel_rfl))⟩
  f26:=⟨Tryz.f168.name,by decide,Tryz.func168.trans (congrArg some (by kernel_rfl))⟩
  f27:=⟨Tryz.f169.name,by decide,Tryz.func169.trans (congrArg some (by kernel_rfl))⟩
  f28:=⟨Tryz.f170.name,by decide,Tryz.func170.trans (congrArg some (by kernel_rfl))⟩
  f29:=⟨Tryz.f171.name,by decide,Tryz.func171.trans (congrArg some (by kernel_rfl))⟩
  f31:=Tryz.func177.trans (congrArg some (by kernel_rfl))
  f32:=Tryz.func178.trans (congrArg some (by kernel_rfl))
  f36:=⟨Tryz.f182.name,by decide,Tryz.func182.trans (congrArg some (by kernel_rfl))⟩
  f37:=⟨Tryz.f183.name,by decide,Tryz.func183.trans (congrArg some (by kernel_rfl))⟩
  f38:=⟨Tryz.f184.name,by decide,Tryz.func184.trans (congrArg some (by kernel_rfl))⟩
  f39:=⟨Tryz.f185.name,by decide,Tryz.func185.trans (congrArg some (by kernel_rfl))⟩
  f41:=⟨Tryz.f190.name,by decide,Tryz.func190.trans (congrArg some (by kernel_rfl))⟩
  t0:=Tryz.underlying0
  a0:=Tryz.isAgg0
  z0:=Tryz.sizeOf0
  v0:=Tryz.zeroValue0
  t3:=Tryz.underlying3
  a3:=Tryz.isAgg3
  z3:=Tryz.sizeOf3
  v3:=Tryz.zeroValue3
  t4:=Tryz.underlying4
  a4:=Tryz.isAgg4
  z4:=Tryz.sizeOf4
  v4:=Tryz.zeroValue4
  t5:=Tryz.underlying5
  a5:=Tryz.isAgg5
  z5:=Tryz.sizeOf5
  v5:=Tryz.zeroValue5
  t9:=Tryz.underlying9
  a9:=Tryz.isAgg9
  z9:=Tryz.sizeOf9
  v9:=Tryz.zeroValue9
  t26:=Tryz.underlying128
  a26:=Tryz.isAgg128
  z26:=Tryz.sizeOf128
  v26:=Tryz.zeroValue128
  t27:=Tryz.underlying128
  a27:=Tryz.isAgg128
  z27:=Tryz.sizeOf128
  v27:=Tryz.zeroValue128
  t29:=Tryz.underlying9
  a29:=Tryz.isAgg9
  z29:=Tryz.sizeOf9
  v29:=Tryz.zeroValue9
  t32:=Tryz.underlying198
  a32:=Tryz.isAgg198
  z32:=Tryz.sizeOf198
  v32:=Tryz.zeroValue198
  t35:=Tryz.underlying211
  a35:=Tryz.isAgg211
  z35:=Tryz.sizeOf211
  v35:=Tryz.zeroValue211
  t36:=Tryz.underlying212
  a36:=Tryz.isAgg212
  z36:=Tryz.sizeOf212
  v36:=Tryz.zeroValue212
  t41:=Tryz.underlying202
  a41:=Tryz.isAgg202
  z41:=Tryz.sizeOf202
  v41:=Tryz.zeroValue202
  t44:=Tryz.underlying218
  a44:=Tryz.isAgg218
  z44:=Tryz.sizeOf218
  v44:=Tryz.zeroValue218
  t46:=Tryz.underlying220
  a46:=Tryz.isAgg220
  z46:=Tryz.sizeOf220
  v46:=Tryz.zeroValue220
  t53:=Tryz.underlying233
  a53:=Tryz.isAgg233
  z53:=Tryz.sizeOf233
  v53:=Tryz.zeroValue233
  t57:=Tryz.underlying237
  a57:=Tryz.isAgg237
  z57:=Tryz.sizeOf237
  v57:=Tryz.zeroValue237
  t63:=Tryz.underlying245
  a63:=Tryz.isAgg245
  z63:=Tryz.sizeOf245
  v63:=Tryz.zeroValue245
  t64:=Tryz.underlying246
  a64:=Tryz.isAgg246
  z64:=Tryz.sizeOf246
  v64:=Tryz.zeroValue246 }
end Go.Proofs
end
namespace Go.Proofs.YtnipofpbcggjcaaGreat
section
open Go.RowKit Go.Maps Go.Sort Go.Shelf
theorem X9 (m:Nat):AnyZ.SortsIn Tryz.prog Tryz.sortedS_ren Fence.wide m:=
  ⟨fun blk off cap ss W hH hblk hsz=>callsIn_wide.2 (AnyM.slices_Sort_string Tryz.sortS blk off cap ss W hH hblk hsz),
   fun p cap W=>callsIn_wide.2 (AnyM.slices_Sort_string_none Tryz.sortS p cap W)⟩
def FB (bk:Nat):Value:=.func (.func 102) #[] #[.pointer (some ⟨bk,0,none⟩)]
theorem TH {β:Bs} (mb:Option Nat):Spec Tryz.prog β 52 #[.map mb] [] (fun v l=>∃ bk,v=FB bk/\l=[.blk bk [.map mb] 95]):=
  Spec.Pj fun W _=>by
    have h:CallsIn Fence.wide 5 Tryz.prog 52 #[.map mb] W fun e w'=>e=.returned (FB W.heap.size)/\w'=W.alloc (.cells #[.map mb] 95):=AnyZ.keys_in Tryz.keysS Fence.wide 5 trivial rfl mb W
    refine ((callsIn_wide (n:=5)).1 h).mono ?_
    rintro e w' ⟨rfl,rfl⟩
    refine⟨_,_,rfl,⟨W.heap.size,rfl,rfl⟩,(Keeps.refl _ _).alloc _,fun k=>k=W.heap.size,⟨?_,fun k=>Iff.rfl⟩,fun k hk=>Nat.le_of_eq hk.symm⟩
    show (W.heap.push _)[W.heap.size]?=_
    simp
def tS (es:fB Th):List Value:=es.map (fun e=>.string e.1)
theorem LB {es:fB Th} (h:lI es):(es.map (fun e=>e.1.data.toList)).Pairwise (· < ·):=by
  refine List.pairwise_map.2 (h.imp (fun {a b} hab=>?_))
  unfold eH at hab
  have h1:¬ Op.bytesLess b.1.toList a.1.toList=true:=fun e=>hab (by rw [e];rfl)
  have h2:¬ b.1.toList=a.1.toList:=fun e=>hab (by rw [e];simp)
  rw [bytesLess_eq,Lib.toList_data,Lib.toList_data] at h1
  rw [Lib.toList_data,Lib.toList_data] at h2
  grind
theorem TJ {w:World} {b n:Nat} {L:HL} {es:fB Th} {D:DataW Value} (hr:lI es) (hown:w.ownsMap Tryz.prog 9 uE b n D) (hf:∀ kl,Maps.has D kl=(jJ L es kl).isSome) {ss:List (List UInt8)} (hp:ss.Perm (strKeys D)) :
    ss.mergeSort (fun x y=>decide (x<=y))=es.map (fun e=>e.1.data.toList):=by
  have hsort:=LB hr
  obtain⟨es',hD,hpw,_⟩:=hown.entries C0
  obtain⟨es2,Vd,hko⟩:=hown.keysOf
  obtain rfl:es'=es2:=by rw [hD] at Vd;simpa using Vd
  have hp2:(es.map (fun e=>e.1.data.toList)).Perm (strKeys D):=by
    rw [hD]
    refine perm_strKeys hpw (fun p hp=>?_) (hsort.imp (fun {a b} h e=>by subst e;exact absurd h (List.lt_irrefl a))) (fun x=>?_)
    ·obtain⟨v,hv⟩:=hko p hp
     obtain⟨x,_,h,_⟩:=keyOf_str Tryz.underlying9 hv
     exact⟨x,h⟩
    rw [← hD,hf]
    show _↔((aL ⟨x.toArray⟩ es).map (eV L)).isSome=true
    rw [Option.isSome_map]
    constructor
    ·intro hx
     obtain⟨e,he,rfl⟩:=List.mem_map.1 hx
     have h1:(⟨e.1.data.toList.toArray⟩:ByteArray)=e.1:=by rw [Array.toArray_toList]
     rw [h1,vA (t:=e.2) (lI.twice hr) he];rfl
    intro hx
    obtain⟨t,ht⟩:=Option.isSome_iff_exists.1 hx
    exact List.mem_map.2 ⟨_,nL ht,by simp⟩
  have h3:=mergeSort_of_perm (hp.trans hp2.symm)
  have h4:(es.map (fun e=>e.1.data.toList)).mergeSort leB=es.map (fun e=>e.1.data.toList):=List.mergeSort_of_pairwise (hsort.imp (fun {a b} h=>by simp only [leB,decide_eq_true_eq];exact List.le_of_lt h))
  exact h3.trans h4
theorem N5 {β:Bs} (L:HL) (b bk n:Nat) (es:fB Th) (hr:lI es) (hn:n<=8192) :
    Spec Tryz.prog β 51 #[FB bk] [.abs (bq Tryz.prog 9 b (jJ L es) n),.blk bk [.map (some b)] 95] (fun v l=>∃ A cap,v=.slice A es.length cap ∧
      l=[.abs (bq Tryz.prog 9 b (jJ L es) n),.blk bk [.map (some b)] 95,.abs (ay 9 1 A es.length cap (tS es))]):=by
  intro R w hS
  obtain⟨F1,h1⟩:=hS.get (i:=0) (p:=.abs (bq Tryz.prog 9 b (jJ L es) n)) rfl
  obtain⟨F2,h2⟩:=hS.get (i:=1) (p:=.blk bk [.map (some b)] 95) rfl
  obtain⟨D,hown,hsz,hhas,_⟩:=h1.1
  have hcell:w.cell? ⟨bk,0,none⟩=some (.map (some b)):=(jb h2.1 rfl rfl rfl).1
  have hseq:SeqGives Fence.wide 2 Tryz.prog 102 #[.pointer (some ⟨bk,0,none⟩)] encStr (fun ss=>ss.Perm (strKeys D)) (Maps.size D) w:=
    AnyZ.keys_gives (ρ:=Tryz.keysS_ren) { Tryz.keysS with } Fence.wide _ trivial rfl (by omega) bk b n D w (lt_of_some h2.1) hcell hown
  have cS:=AnyZ.sorted_in Tryz.sortedS Fence.wide 5 trivial trivial trivial trivial rfl (by omega) (X9 _) (enters_of Tryz.func101 (by kernel_rfl) rfl) 102 #[.pointer (some ⟨bk,0,none⟩)] trivial (enters_of Tryz.func102 (by kernel_rfl) rfl)
    (fun ss=>ss.Perm (strKeys D)) (Maps.size D) (by rw [hsz];unfold maxLen;omega) (by rw [hsz];omega) w hseq
  change CallsIn _ _ Tryz.prog 51 _ _ _ at cS
  refine ((callsIn_wide (n:=5)).1 cS).mono ?_
  rintro e w' ⟨v,ss,rfl,hp,hrow,hnil,hb⟩
  have hkeys:=TJ hr hown hhas hp
  have hl2:ss.length=es.length:=by
    have h3:(ss.mergeSort (fun x y=>decide (x<=y))).length=ss.length:=List.length_mergeSort ss
    rw [hkeys,List.length_map] at h3
    exact h3.symm
  rw [hkeys,hl2] at hrow
  have zJ:∃ A cap,v=.slice A es.length cap:=by
    rcases hrow.2 with ⟨e1,e2⟩|⟨g,cp,cur,e1,_⟩
    all_goals grind
  obtain⟨A,cap,rfl⟩:=zJ
  have hnv:(es.map (fun e=>e.1.data.toList)).map encStr=tS es:=by
    rw [List.map_map]
    refine List.map_congr_left (fun e _=>?_)
    grind
  rw [hnv] at hrow
  have hq:Sat β ([.abs (bq Tryz.prog 9 b (jJ L es) n),.blk bk [.map (some b)] 95,.abs R]++[.abs (ay 9 1 A es.length cap (tS es))]) w':=by
    refine Sat.new (F:=fun k=>(Value.slice A es.length cap).ownBlock=some k) hS ⟨?_,fun k=>Iff.rfl⟩ ⟨hb.os,hb.tape,hb.output,hb.size,fun k hk _=>hb.block k hk⟩ (fun k hk=>(hrow.lt k hk).1)
    refine⟨hrow.1,?_⟩
    rcases hrow.2 with h|⟨g,cp,cur,e1,_,h3,h4⟩
    ·exact .inl h
    exact .inr ⟨g,cp,cur,e1,Nat.zero_le _,h3,h4⟩
  exact⟨_,[.abs (bq Tryz.prog 9 b (jJ L es) n),.blk bk [.map (some b)] 95,.abs (ay 9 1 A es.length cap (tS es))],rfl,⟨A,cap,rfl,rfl⟩,hq.pick (idx:=[0,1,3,2]) rfl rfl⟩
end
section
open Go.RowKit Go.Maps aX aq
theorem uT {ns:List aA} {n:aA} {k:Nat} (h:k < ns.length):nd (ns++[n]) k=nd ns k:=by
  grind [nd]
theorem sJ {ns:List aA} {n:aA}:nd (ns++[n]) ns.length=n:=by
  grind [nd]
def Dg:Lay:=⟨fun _=>none,fun _=>none,fun _=>0,fun _=>0⟩
def og (ns:List aA) (L:Lay) (k:Nat):cO:=ay 68 2 (L.eA k) (nd ns k).ah.length (L.eC k) (jt (nd ns k).ah)
def jL (ns:List aA) (L:Lay) (k:Nat):cO:=ay 5 1 (L.dA k) (nd ns k).data.length (L.dC k) (cE (nd ns k).data)
def aa5 (A:Option Addr) (c:Nat) (ns:List aA) (L:Lay):HP:=.abs (ay 66 10 A ns.length c (aR L ns))
def JI (A:Option Addr) (c:Nat) (ns:List aA) (L:Lay):List HP:=[aa5 A c ns L,.abs (jd (og ns L) ns.length),.abs (jd (jL ns L) ns.length)]
theorem nU.graph {β β':Bs} {A:Option Addr} {c:Nat} {ns:List aA} {L:Lay} (h:nU β (JI A c ns L) β'):aB β' A ns L:=by
  obtain⟨F,h1,h2⟩:=h.get 0 rfl
  obtain⟨G,g1,g2⟩:=h.get 1 rfl
  obtain⟨K,k1,k2⟩:=h.get 2 rfl
  exact⟨bT.gu h1 h2 rfl,
    jd.base k1 k2 rfl (Φ:=fun i b=>aZ b (L.dA i) (nd ns i).data) (fun i _ F hF hO=>bT.gu (show (HP.abs (ay 5 1 (L.dA i) (nd ns i).data.length (L.dC i) (cE (nd ns i).data))).h F _ from hF) hO rfl),
    jd.base g1 g2 rfl (Φ:=fun i b=>bg b (L.eA i) (nd ns i).ah) (fun i _ F hF hO=>bT.gu (show (HP.abs (ay 68 2 (L.eA i) (nd ns i).ah.length (L.eC i) (jt (nd ns i).ah))).h F _ from hF) hO rfl)⟩
theorem LC {L:Lay} {ns:List aA} {n:aA} {dA eA:Option Addr} {dC eC:Nat}:aR L ns++[.int .i64 n.id,.int .i64 n.kind,.int .i64 n.mode,.int .i64 n.uid,.int .i64 n.gid,.int .i64 n.sec,.int .i64 n.nano,.slice dA n.data.length dC,.string n.target,.slice eA n.ah.length eC]=aR (L.put ns.length dA dC eA eC) (ns++[n]):=by
  have h:=DR (ns:=ns++[n]) (L:=L) (k:=ns.length) (by simp) dA dC eA eC
  grind [sJ]
theorem GN {ns:List aA} {L:Lay} {n:aA} {dA eA:Option Addr} {dC eC:Nat}:(∀ x,x < ns.length->jL (ns++[n]) (L.put ns.length dA dC eA eC) x=jL ns L x)/\jL (ns++[n]) (L.put ns.length dA dC eA eC) ns.length=ay 5 1 dA n.data.length dC (cE n.data):=by
  grind [jL,Lay.put,uT,sJ]
theorem GP {ns:List aA} {L:Lay} {n:aA} {dA eA:Option Addr} {dC eC:Nat}:(∀ x,x < ns.length->og (ns++[n]) (L.put ns.length dA dC eA eC) x=og ns L x)/\og (ns++[n]) (L.put ns.length dA dC eA eC) ns.length=ay 68 2 eA n.ah.length eC (jt n.ah):=by
  grind [og,Lay.put,uT,sJ]
def dL (O:bX) (e:ByteArray×Th):cW:=⟨e.1,(obj O e.2.k).id⟩
def gF (O:bX) (id:Int) (t:Th):aA:=⟨id,t.kind,(obj O t.k).mode,(obj O t.k).uid,(obj O t.k).gid,(obj O t.k).sec,(obj O t.k).nano,(obj O t.k).data,(obj O t.k).target,(obj O t.k).ah.map (dL O)⟩
def aE (S:aI):List aA:=S.idx.map (fun p=>gF S.O p.1 p.2)
theorem eZ {S:aI}:(aE S).length=S.idx.length:=List.length_map ..
def fO (S:aI) (i:Nat):Th:=(S.idx.getD i (0,⟨0,0⟩)).2
def dS (S:aI) (i:Nat):Int:=(S.idx.getD i (0,⟨0,0⟩)).1
section at_
variable {S:aI} {i:Nat}
theorem tT (hi:i < S.idx.length):S.idx[i]?=some (dS S i,fO S i):=by
  grind [dS,fO]
theorem get_at (h:Inv0 S) (hi:i < S.idx.length):aq.get S.idx (dS S i)=some (fO S i):=kD h.rise (List.mem_of_getElem? (tT hi))
theorem FC (h:Inv0 S) (hi:i < S.idx.length):Live S.idx (fO S i)/\dS S i=((fO S i).k:Int):=⟨h.live (get_at h hi),h.key (get_at h hi)⟩
theorem JJ (hi:i < S.idx.length):(keys S.idx)[i]?=some (dS S i):=by
  grind [keys,tT]
theorem yH (hi:i < S.idx.length):(aE S).take (i+1)=(aE S).take i++[gF S.O (dS S i) (fO S i)]:=by
  rw [List.take_add_one]
  grind [aE,tT]
theorem eS (hi:i<=S.idx.length):((aE S).take i).length=i:=by rw [List.length_take,eZ];omega
end at_
section sat
variable {β:Bs} {l l':List HP} {w:World} {i j k:Nat} {O:bX} {L:HL} {ix:List Nat}
theorem Sat.Ya (h:Sat β l w) (hp:l[i]?=some (.abs (aG (mY (bV O L) k cO.none)))) (hq:l[j]?=some (.abs (ay 5 1 (L.dA k) (obj O k).data.length (L.dC k) (cE (obj O k).data)))) (hd:aN (i::j::ix)=true) (hl:bp l ix=some l') (h2:(obj O k).kind=1):Sat β (.abs (aG (bV O L))::l') w:=
  h.uH hp hq (fun _ _ h=>h) hd hl k (fun _ hx=>(qY hx).symm) (vr h2)
end sat
theorem Eo {es:List cW} {e:cW}:jt es++[.string e.name,.int .i64 e.id]=jt (es++[e]):=(yh e es 0).symm
section grow
variable {ns G':List aA} {n:aA} {L:Lay} {i dn en:Nat} {dA eA:Option Addr} {dC eC:Nat}
theorem rK (hl:ns.length=i) (hG:G'=ns++[n]) (hd:n.data.length=dn) (he:n.ah.length=en):aR L ns++[.int .i64 n.id,.int .i64 n.kind,.int .i64 n.mode,.int .i64 n.uid,.int .i64 n.gid,.int .i64 n.sec,.int .i64 n.nano,.slice dA dn dC,.string n.target,.slice eA en eC]=aR (L.put i dA dC eA eC) G':=by
  subst hl hG hd he;exact LC
theorem yI (hl:ns.length=i) (hG:G'=ns++[n]):∀ x,x < i->jL G' (L.put i dA dC eA eC) x=jL ns L x:=by
  subst hl hG;exact GN.1
theorem wC (hl:ns.length=i) (hG:G'=ns++[n]) (hd:n.data.length=dn):jL G' (L.put i dA dC eA eC) i=ay 5 1 dA dn dC (cE n.data):=by
  subst hl hG hd;exact GN.2
theorem yJ (hl:ns.length=i) (hG:G'=ns++[n]):∀ x,x < i->og G' (L.put i dA dC eA eC) x=og ns L x:=by
  subst hl hG;exact GP.1
theorem wD (hl:ns.length=i) (hG:G'=ns++[n]) (he:n.ah.length=en):og G' (L.put i dA dC eA eC) i=ay 68 2 eA en eC (jt n.ah):=by
  subst hl hG he;exact GP.2
end grow
section more
variable {S:aI} {i j k:Nat}
theorem aaq (h:Inv0 S) (hi:i < S.idx.length):(∃ k,fO S i=⟨k,1⟩/\Live S.idx ⟨k,1⟩)\/(∃ k,fO S i=⟨k,2⟩/\Live S.idx ⟨k,2⟩)\/∃ k,fO S i=⟨k,3⟩/\Live S.idx ⟨k,3⟩:=by
  have h1:=(FC h hi).1
  generalize fO S i=t at h1 ⊢
  obtain⟨k,kd⟩:=t
  rcases (h.ob _ h1).2.2 with e|e|e<;>simp only at e<;>subst e
  all_goals grind
theorem FD (h:Inv0 S) (hi:i < S.idx.length):(Lit.int .i64 (dS S i)).wf=true:=by
  have h1:=h.idx _ _ (get_at h hi)
  have h2:=h.last
  exact WalkArith.wf_i64 (by omega)
theorem TK (hi:i < S.idx.length):(ints (keys S.idx))[i * 1+0]?=some (.int .i64 (dS S i)):=by
  grind [ints,JJ]
theorem JK (h:Inv0 S) {t:Th} (hl:Live S.idx t) (hk:t.kind≠3):(obj S.O t.k).target=⟨#[]⟩:=by
  rcases (h.mt t hl).target with e|e
  ·exact e.2
  exact absurd (h.kind hl ▸ e.1) hk
theorem tU (h:Inv0 S) (hi:i < S.idx.length) (mO:fO S i=⟨k,1⟩) (hl:Live S.idx ⟨k,1⟩):(aE S).take (i+1)=(aE S).take i++[⟨dS S i,1,(obj S.O k).mode,(obj S.O k).uid,(obj S.O k).gid,(obj S.O k).sec,(obj S.O k).nano,(obj S.O k).data,⟨#[]⟩,[]⟩]:=by
  rw [yH hi,mO]
  unfold gF
  rw [show (obj S.O k).target=⟨#[]⟩ from JK h hl (by simp),show (obj S.O k).ah=[] from (h.mt _ hl).ah (by rw [h.kind hl];simp)];rfl
theorem tV (h:Inv0 S) (hi:i < S.idx.length) (mO:fO S i=⟨k,3⟩) (hl:Live S.idx ⟨k,3⟩):(aE S).take (i+1)=(aE S).take i++[⟨dS S i,3,(obj S.O k).mode,(obj S.O k).uid,(obj S.O k).gid,(obj S.O k).sec,(obj S.O k).nano,[],(obj S.O k).target,[]⟩]:=by
  rw [yH hi,mO]
  unfold gF
  rw [show (obj S.O k).data=[] from (h.mt _ hl).data (by rw [h.kind hl];simp),show (obj S.O k).ah=[] from (h.mt _ hl).ah (by rw [h.kind hl];simp)];rfl
theorem vF (h:Inv0 S) (hi:i < S.idx.length) (mO:fO S i=⟨k,2⟩) (hl:Live S.idx ⟨k,2⟩):(aE S).take (i+1)=(aE S).take i++[⟨dS S i,2,(obj S.O k).mode,(obj S.O k).uid,(obj S.O k).gid,(obj S.O k).sec,(obj S.O k).nano,[],⟨#[]⟩,(obj S.O k).ah.map (dL S.O)⟩]:=by
  rw [yH hi,mO]
  unfold gF
  rw [show (obj S.O k).target=⟨#[]⟩ from JK h hl (by simp),show (obj S.O k).data=[] from (h.mt _ hl).data (by rw [h.kind hl];simp)]
def jY (es:fB Th) (j:Nat):ByteArray:=(es.getD j (⟨#[]⟩,⟨0,0⟩)).1
def qm (es:fB Th) (j:Nat):Th:=(es.getD j (⟨#[]⟩,⟨0,0⟩)).2
theorem yK {es:fB Th} (hj:j < es.length):es[j]?=some (jY es j,qm es j):=by
  grind [jY,qm]
theorem N6 {es:fB Th} (hj:j < es.length):(tS es)[j * 1+0]?=some (.string (jY es j)):=by
  grind [tS,yK]
theorem aa6 (h:Inv0 S) {t:Th} (hl:Live S.idx t) (hj:j < (obj S.O t.k).ah.length):bO (jY (obj S.O t.k).ah j)/\((∃ k,aL (jY (obj S.O t.k).ah j) (obj S.O t.k).ah=some ⟨k,1⟩/\Live S.idx ⟨k,1⟩/\qm (obj S.O t.k).ah j=⟨k,1⟩)\/(∃ k,aL (jY (obj S.O t.k).ah j) (obj S.O t.k).ah=some ⟨k,2⟩/\Live S.idx ⟨k,2⟩/\qm (obj S.O t.k).ah j=⟨k,2⟩)\/∃ k,aL (jY (obj S.O t.k).ah j) (obj S.O t.k).ah=some ⟨k,3⟩/\Live S.idx ⟨k,3⟩/\qm (obj S.O t.k).ah j=⟨k,3⟩):=by
  have hm:=List.mem_of_getElem? (yK hj)
  have h1:=h.ah t hl _ hm
  have h2:=vA (h.twice hl) hm
  refine⟨h1.1,?_⟩
  have h3:=h1.2
  generalize qm (obj S.O t.k).ah j=u at h2 h3 ⊢
  obtain⟨k,kd⟩:=u
  rcases (h.ob _ h3).2.2 with e|e|e<;>simp only at e<;>subst e
  all_goals grind
theorem AO {O:bX} {es:fB Th} {kd:Int} (hj:j < es.length) (he:qm es j=⟨k,kd⟩):jt ((es.take j).map (dL O))++[.string (jY es j),.int .i64 (obj O k).id]=jt ((es.take (j+1)).map (dL O)):=by
  rw [List.take_add_one,yK hj,he,List.map_append]
  exact Eo (es:=(es.take j).map (dL O)) (e:=⟨jY es j,(obj O k).id⟩)
end more
theorem nU.bytes {β β':Bs} {A:Option Addr} {n c:Nat} {d:List UInt8} (h:nU β [.abs (ay 5 1 A n c (cE d))] β'):aZ β' A d:=by
  obtain⟨F,h1,h2⟩:=h.get 0 rfl
  exact bT.gu h1 h2 rfl
end
section
open Go.RowKit Go.Maps
structure FE (ns:List aA) (i j:Nat):Prop where
  Yb:i < ns.length
  GQ:j < (nd ns i).ah.length
  dir:(nd ns (tgt ns (ent ns i j).id)).kind=2
section
variable {ns:List aA}
theorem vG {i m:Nat} {p:Nat×Nat}:p∈ez ns i m↔∃ j,j < m/\(nd ns (tgt ns (ent ns i j).id)).kind=2/\p=(tgt ns (ent ns i j).id,i):=by
  induction m with
  | zero=>simp [ez]
  | succ m ih=>
    grind [nd,tgt,ent,mD,nK]
theorem yL {m:Nat} {p:Nat×Nat}:p∈fW ns m↔∃ i j,i < m/\j < (nd ns i).ah.length/\(nd ns (tgt ns (ent ns i j).id)).kind=2/\p=(tgt ns (ent ns i j).id,i):=by
  induction m with
  | zero=>simp [fW]
  | succ m ih=>
    grind [fW,vG]
theorem FE.mem {i j:Nat} (h:FE ns i j):(tgt ns (ent ns i j).id,i)∈fW ns ns.length:=yL.2 ⟨i,j,h.Yb,h.GQ,h.dir,rfl⟩
def Vs (ns:List aA) (m:Nat):Prop:=∀ i j i' j',FE ns i j->FE ns i' j'->i < m->i' < m->tgt ns (ent ns i j).id=tgt ns (ent ns i' j').id->i=i'/\j=j'
theorem Qi {i m:Nat} (h:((ez ns i m).map Prod.fst).Nodup):∀ j j',j < m->j' < m->(nd ns (tgt ns (ent ns i j).id)).kind=2->(nd ns (tgt ns (ent ns i j').id)).kind=2->tgt ns (ent ns i j).id=tgt ns (ent ns i j').id->j=j':=by
  induction m with
  | zero=>intro j j' hj;omega
  | succ m ih=>
    intro j j' hj hj' hk hk' e
    by_cases hm:(nd ns (tgt ns (ent ns i m).id)).kind=2
    ·rw [mD hm,List.map_cons,List.nodup_cons] at h
     rcases Nat.lt_succ_iff_lt_or_eq.1 hj with e1|e1
     ·rcases Nat.lt_succ_iff_lt_or_eq.1 hj' with e2|e2
      ·exact ih h.2 j j' e1 e2 hk hk' e
      subst e2;exact absurd (List.mem_map.2 ⟨_,vG.2 ⟨j,e1,hk,rfl⟩,e⟩) h.1
     rcases Nat.lt_succ_iff_lt_or_eq.1 hj' with e2|e2
     ·subst e1;exact absurd (List.mem_map.2 ⟨_,vG.2 ⟨j',e2,hk',rfl⟩,e.symm⟩) h.1
     omega
    grind [nK]
theorem Qj {m:Nat} (h:((fW ns m).map Prod.fst).Nodup):Vs ns m:=by
  induction m with
  | zero=>intro i j i' j' _ _ hi;omega
  | succ m ih=>
    rw [fW,List.map_append] at h
    obtain⟨h1,h2,h3⟩:=List.nodup_append.1 h
    intro i j i' j' g g' hi hi' e
    rcases Nat.lt_succ_iff_lt_or_eq.1 hi with e1|e1
    ·rcases Nat.lt_succ_iff_lt_or_eq.1 hi' with e2|e2
     ·exact ih h2 i j i' j' g g' e1 e2 e
     subst e2
     exact absurd e.symm (h3 _ (List.mem_map.2 ⟨_,vG.2 ⟨j',g'.GQ,g'.dir,rfl⟩,rfl⟩) _ (List.mem_map.2 ⟨_,yL.2 ⟨i,j,e1,g.GQ,g.dir,rfl⟩,rfl⟩))
    rcases Nat.lt_succ_iff_lt_or_eq.1 hi' with e2|e2
    ·subst e1
     exact absurd e (h3 _ (List.mem_map.2 ⟨_,vG.2 ⟨j,g.GQ,g.dir,rfl⟩,rfl⟩) _ (List.mem_map.2 ⟨_,yL.2 ⟨i',j',e2,g'.GQ,g'.dir,rfl⟩,rfl⟩))
    subst e1;subst e2
    exact⟨rfl,Qi h1 j j' g.GQ g'.GQ g.dir g'.dir e⟩
def FH (ns:List aA) (d:Nat->Nat):Prop:=∀ i j,FE ns i j->d i < d (tgt ns (ent ns i j).id)
theorem aV.uniq (h:aV ns):Vs ns ns.length:=Qj h.nodup
theorem aV.deep (h:aV ns):∃ d,FH ns d:=by
  refine⟨fun k=>Classical.choose (h.ends (nd ns k).id),fun i j g=>?_⟩
  have hp:=vE (ns:=ns) (Nat.le_refl _) h.ah
  have hat:=(h.ah i g.Yb j g.GQ).at_
  have htl:=kg hat
  have e1:=Classical.choose_spec (h.ends (nd ns i).id)
  have e2:=Classical.choose_spec (h.ends (nd ns (tgt ns (ent ns i j).id)).id)
  show Classical.choose (h.ends (nd ns i).id) < Classical.choose (h.ends (nd ns (tgt ns (ent ns i j).id)).id)
  generalize Classical.choose (h.ends (nd ns i).id)=x at e1 ⊢
  generalize Classical.choose (h.ends (nd ns (tgt ns (ent ns i j).id)).id)=y at e2 ⊢
  cases hu:up ((fW ns ns.length).map (iQ ns)) (nd ns (tgt ns (ent ns i j).id)).id with
  | none=>
    have:=Md hu
    exact absurd (List.mem_map.2 ⟨_,g.mem,rfl⟩) this
  | some z=>
    obtain⟨_,p,g1,g2,g3⟩:=Me h.rise htl.1 (fun p hp'=>(hp p hp').1) hu
    obtain⟨a,b,ha,hb,hk,rfl⟩:=yL.1 g1
    have g2:tgt ns (ent ns a b).id=tgt ns (ent ns i j).id:=g2
    obtain⟨rfl,rfl⟩:=h.uniq a b i j ⟨ha,hb,hk⟩ g ha g.Yb g2
    have g3:z=(nd ns a).id:=g3
    cases y with
    | zero=>
      have e2:up _ _=none:=e2
      rw [hu] at e2;cases e2
    | succ y=>
      obtain⟨z',h1,h2⟩:=e2
      rw [hu] at h1
      cases h1
      rw [g3] at h2
      have:=e1.uniq h2
      show x < y+1
      omega
end
end
section
open Go.RowKit Go.Maps aX aq
structure kQ (X:FM):Prop where
  cN:0<=X.cN/\X.cN<=4096
  cB:0<=X.cB/\X.cB<=1099511627776
  cH:0<=X.cH/\X.cH<=1024
  now:dw X.cS X.cZ
def gA (n:aA):Nat:=n.id.toNat
def qZ (n:aA):Th:=⟨gA n,n.kind⟩
def si (n:aA):aM:=⟨n.id,n.mode,n.uid,n.gid,n.sec,n.nano,0,0,false,n.kind,n.data,n.target,[],none⟩
def Ii:aM:=⟨0,0,0,0,0,0,0,0,false,0,[],⟨#[]⟩,[],none⟩
def wE (X:FM):aI:=⟨{ X with last:=0,ah:=0,used:=0 },fun _=>Ii,[],[],0⟩
def di (S:aI) (n:aA):aI:={ S with X:={ S.X with last:=n.id,used:=S.X.used+n.data.length },O:=aD S.O (gA n) (fun _=>si n),idx:=ins n.id (qZ n) S.idx }
def mP (ns:List aA) (e:cW):Th:=qZ (nd ns (tgt ns e.id))
def oh (ns:List aA) (S:aI) (n:aA) (e:cW):aI:={ S with X:={ S.X with ah:=S.X.ah+1 },O:=qI S.O (gA n) e.name (mP ns e) }
def cK (ns:List aA):Nat->Nat
  | 0=>0
  | k+1=>cK ns k+(nd ns k).data.length
def Dh (ns:List aA):Used Th:=ns.map (fun n=>(n.id,qZ n))
structure tA (X:FM) (ns:List aA) (k:Nat) (S:aI):Prop where
  inv:Inv0 S
  idx:S.idx=Dh (ns.take k)
  us:S.us=[]
  av:S.av=0
  cap:S.X={ X with last:=ny ns k,ah:=0,used:=(cK ns k:Int) }
  ob:∀ a,a < k->obj S.O (gA (nd ns a))=si (nd ns a)
  free:∀ x,(∀ a,a < k->x≠gA (nd ns a))->obj S.O x=Ii
section base
variable {X:FM} {ns:List aA} {i j k a b:Nat} {S:aI}
theorem AP (h:aV ns) (hk:k < ns.length):(gA (nd ns k):Int)=(nd ns k).id:=by
  have:=h.ids k hk
  unfold gA;omega
theorem uU (h:aV ns) (ha:a < ns.length) (hb:b < ns.length) (e:gA (nd ns a)=gA (nd ns b)):a=b:=
  h.rise.inj ha hb (by rw [← AP h ha,← AP h hb,e])
theorem AQ (hk:k < ns.length):ns[k]?=some (nd ns k):=getD_some hk
theorem WO (hk:k < ns.length):ns.take (k+1)=ns.take k++[nd ns k]:=by
  rw [List.take_add_one,AQ hk];rfl
theorem Qk (hX:kQ X):tA X ns 0 (wE X):=by
  refine⟨?_,rfl,rfl,rfl,rfl,fun a h=>absurd h (Nat.not_lt_zero a),fun _ _=>rfl⟩
  have hn:∀ t,¬ Live ([]:Used Th) t:=fun t h=>by cases h
  exact⟨hX.cN,hX.cB,hX.cH,hX.now,by show (0:Int)<=0/\(0:Int)<=_;omega,.nil,Nat.zero_le _,fun _ _ e=>(by cases e),fun t h=>absurd h (hn t),fun t h=>absurd h (hn t),fun t h=>absurd h (hn t),fun t h=>absurd h (hn t),
    fun _ _=>⟨rfl,rfl⟩,fun _ _=>rfl,⟨rfl,by show (0:Int)<=8192;omega⟩,fun t h=>absurd h (hn t),fun t h=>absurd h (hn t),fun t h=>absurd h (hn t),.nil,fun x hx=>(by cases hx),(by show ((0:Nat):Int)<=X.cH;have:=hX.cH;omega),⟨Int.le_refl _,hX.cH.1⟩,fun _ _ e=>(by cases e),fun t h=>absurd h (hn t),fun t h=>absurd h (hn t),⟨fun _=>0,fun k d e=>(by cases e)⟩,⟨rfl,by show (0:Int)<=_;omega⟩⟩
theorem Mu (h:aV ns) (hk:k < ns.length):∀ x∈keys (Dh (ns.take k)),x < (nd ns k).id:=by
  intro x hx
  obtain⟨p,hp,rfl⟩:=List.mem_map.1 hx
  obtain⟨n,hn,rfl⟩:=List.mem_map.1 hp
  obtain⟨a,ha,e⟩:=List.mem_iff_getElem.1 hn
  rw [List.length_take] at ha
  rw [List.getElem_take] at e
  have e2:nd ns a=n:=by
    grind [AQ,keys,Dh,nd]
  rw [← e2]
  exact h.rise a k (by omega) hk
theorem GR (hd:∀ i,i < ns.length->(nd ns i).data.length<=1048576) (hk:k<=ns.length):cK ns k<=1048576 * k:=by
  induction k with
  | zero=>exact Nat.le_refl _
  | succ k ih=>
    grind [cK,nd]
theorem AR (h:aV ns) (hd:∀ i,i < ns.length->(nd ns i).data.length<=1048576) (hk:k < ns.length) (hB:tA X ns k S):tA X ns (k+1) (di S (nd ns k)):=by
  have hs:=GR hd (Nat.le_of_lt hk)
  have hn:=h.node k hk
  have hid:=AP h hk
  have ud:=h.ids k hk
  have hu:S.X.used=(cK ns k:Int):=by rw [hB.cap]
  have hl:S.X.last=ny ns k:=by rw [hB.cap]
  have hlen:=h.len
  have hdk:=hd k hk
  have abX:S.idx.length=k:=by
    rw [hB.idx];unfold Dh;rw [List.length_map,List.length_take];omega
  have h1:=hB.inv.newAt (k0:=gA (nd ns k)) (o:=si (nd ns k)) (oI:=S.X.used+(nd ns k).data.length) (us':=S.us) (iO:=S.av) (by rw [hid,hl];exact h.last hk) (by rw [hid];exact ud.2) ⟨rfl,by rw [hu];omega⟩ hid.symm
    (by have:=hn.kind;show (nd ns k).kind=1\/(nd ns k).kind=2\/(nd ns k).kind=3;omega) rfl rfl rfl rfl
    ⟨hn.mode,hn.uid,hn.gid,hn.time,fun e=>List.eq_nil_of_length_eq_zero (hn.data e),fun _=>rfl,hn.target⟩ (by omega)
    hB.inv.usr hB.inv.tM hB.inv.Al hB.inv.av (fun h t e=>⟨.inl (hB.inv.us h t e).1,(hB.inv.us h t e).2⟩) (fun _ _=>rfl) (by rw [hB.us];rfl)
  rw [hid] at h1
  refine⟨h1,?_,hB.us,hB.av,?_,fun a ha=>?_,fun x hx=>(show obj (aD S.O (gA (nd ns k)) fun _=>si (nd ns k)) x=Ii from (fC (hx k (Nat.lt_succ_self k))).trans (hB.free x fun a ha=>hx a (Nat.lt_succ_of_lt ha)))⟩
  ·show ins (nd ns k).id (qZ (nd ns k)) S.idx=_
   rw [hB.idx,Jf (Mu h hk),WO hk]
   unfold Dh;rw [List.map_append];rfl
  ·show ({ S.X with last:=(nd ns k).id,used:=S.X.used+((nd ns k).data.length:Int) }:FM)=_
   rw [hu,hB.cap]
   show (⟨_,_,_,_,_,_,_,_⟩:FM)=⟨_,_,_,_,_,_,_,_⟩
   congr 1
  show obj (aD S.O (gA (nd ns k)) (fun _=>si (nd ns k))) (gA (nd ns a))=_
  rcases Nat.lt_succ_iff_lt_or_eq.1 ha with e|e
  ·rw [fC (fun e2=>by have:=uU h (by omega) hk e2;omega)]
   exact hB.ob a e
  subst e;exact cU
theorem tA.fresh (h:aV ns) (hk:k < ns.length) (hB:tA X ns k S):wu S.O S.idx S.us (gA (nd ns k)):=hB.inv.Fw (by rw [AP h hk,hB.cap];exact h.last hk)
theorem tA.new (h:aV ns) (hk:k < ns.length) (hB:tA X ns k S):aq.get S.idx (nd ns k).id=none:=get_none.2 (fun hm=>by
  rw [hB.idx] at hm
  exact absurd (Mu h hk _ hm) (by omega))
theorem Di (X:FM) (L:HL):(∀ k,cF (wE X).O L k=cO.none)/\(∀ k,bV (wE X).O L k=cO.none)/\∀ k,dM (wE X).O L k=cO.none:=⟨fun _=>if_pos rfl,fun _=>if_neg (by show ¬ (0:Int)=1;omega),fun _=>if_neg (by show ¬ (0:Int)=2;omega)⟩
theorem Sat.aar {β:Bs} {l l':List HP} {w:World} {i j b m c:Nat} {ix:List Nat} {O:bX} {L L':HL} {A:Option Addr} {o:aM} (h:Sat β l w) (hL:L'=L.put k b m A c) (hp:l[i]?=some (.abs (aG (bV O L)))) (hq:l[j]?=some (.abs (ay 5 1 A o.data.length c (cE o.data)))) (hd:aN (i::j::ix)=true) (hl:bp l ix=some l') (h1:o.kind=1):Sat β (.abs (aG (bV (aD O k (fun _=>o)) L'))::l') w:=by
  refine h.uH hp hq (fun _ _ h=>h) hd hl k (fun x hx=>by rw [Aa hx,BL hL hx]) ?_
  grind [vr,cU,HL.put]
end base
theorem WQ {O:bX} {L:HL} {d:Nat} {name:ByteArray} {t:Th}:bV (qI O d name t) L=bV O L:=
  vB (fun _=>C3 (g:=aM.data) (fun _ _=>rfl) (fun _ _=>rfl) (fun _ _=>rfl)) (fun _=>Ac)
def rL (ns:List aA) (i j a:Nat):Nat:=if a < i then (nd ns a).ah.length else if a=i then j else 0
def qM (ns:List aA) (a m:Nat):fB Th:=((nd ns a).ah.take m).map (fun e=>(e.name,mP ns e))
structure iJ (X:FM) (ns:List aA) (i j:Nat) (S:aI):Prop where
  inv:Inv0 S
  idx:S.idx=Dh ns
  us:S.us=[]
  av:S.av=0
  cap:S.X={ X with last:=ny ns ns.length,ah:=((bJ ns i+j:Nat):Int),used:=(cK ns ns.length:Int) }
  ob:∀ a,a < ns.length->∃ l u,obj S.O (gA (nd ns a))={ si (nd ns a) with links:=l,ah:=qM ns a (rL ns i j a),up:=u }
  free:∀ x,(∀ a,a < ns.length->x≠gA (nd ns a))->obj S.O x=Ii
section ah
variable {X:FM} {ns:List aA} {i j k a b m:Nat} {S:aI} {t:Th}
theorem tA.ah (h:tA X ns ns.length S):iJ X ns 0 0 S:=by
  refine⟨h.inv,by rw [h.idx,List.take_of_length_le (Nat.le_refl _)],h.us,h.av,h.cap,fun a ha=>⟨0,none,?_⟩,h.free⟩
  rw [h.ob a ha]
  have:rL ns 0 0 a=0:=by
    grind [rL]
  rw [this];rfl
theorem iJ.get (h:iJ X ns i j S) (ha:a < ns.length):aq.get S.idx (nd ns a).id=some (qZ (nd ns a)):=by
  refine kD h.inv.rise ?_
  rw [h.idx]
  exact List.mem_map.2 ⟨nd ns a,List.mem_of_getElem? (AQ ha),rfl⟩
theorem iJ.live (hG:aV ns) (h:iJ X ns i j S) (ha:a < ns.length):Live S.idx (qZ (nd ns a)):=by
  have:=h.get ha
  rw [← AP hG ha] at this
  exact this
theorem iJ.of (h:iJ X ns i j S) {x:Int} (e:aq.get S.idx x=some t):∃ a,a < ns.length/\t=qZ (nd ns a):=by
  have hm:=get_mem e
  rw [h.idx] at hm
  obtain⟨n,hn,e2⟩:=List.mem_map.1 hm
  obtain⟨a,ha,e3⟩:=List.mem_iff_getElem.1 hn
  have e4:nd ns a=n:=by
    grind [AQ,qZ,nd]
  cases e2
  exact⟨a,ha,by rw [e4]⟩
theorem JL {es:List cW} {q:Nat} (hq:q < es.length):es[q]?=some (en es q):=getD_some hq
theorem yM {e:ByteArray×Th} (h:e∈qM ns a m):∃ q,q < m/\q < (nd ns a).ah.length/\e.1=(ent ns a q).name/\e.2=mP ns (ent ns a q):=by
  obtain⟨x,hx,rfl⟩:=List.mem_map.1 h
  obtain⟨q,hq,e⟩:=List.mem_iff_getElem.1 hx
  rw [List.length_take] at hq
  rw [List.getElem_take] at e
  have e2:ent ns a q=x:=by
    have:=JL (es:=(nd ns a).ah) (q:=q) (by omega)
    grind [qM,nd,ent,mP]
  grind
theorem Ql (hj:j < (nd ns i).ah.length):qM ns i (j+1)=qM ns i j++[((ent ns i j).name,mP ns (ent ns i j))]:=by
  unfold qM
  rw [List.take_add_one,JL hj,List.map_append];rfl
theorem FI (hG:aV ns) (hi:i < ns.length) {q:Nat}:∀ {j},q < j->j < (nd ns i).ah.length->rE (ent ns i q).name (ent ns i j).name < 0
  | 0,h,_=>absurd h (Nat.not_lt_zero q)
  | j+1,h,hj=>by
    have h1:=D6.1 (hG.ah i hi (j+1) hj).ord
    have h1:rE (ent ns i j).name (ent ns i (j+1)).name < 0:=h1
    rcases Nat.lt_succ_iff_lt_or_eq.1 h with e|e
    ·exact DN (FI hG hi e (by omega)) (Int.le_of_lt h1)
    rw [e];exact h1
theorem TL (hG:aV ns) (hi:i < ns.length) (hj:j < (nd ns i).ah.length):aL (ent ns i j).name (qM ns i j)=none:=by
  refine yt.2 (fun e he e1=>?_)
  obtain⟨q,h1,h2,h3,_⟩:=yM he
  have:=FI hG hi h1 hj
  grind [Gl,ent]
theorem GS {n:ByteArray}:∀ {es:fB Th},(∀ e∈es,rE e.1 n < 0)->gU n t es=es++[(n,t)]
  | [],_=>rfl
  | e::r,h=>by
    have h1:=h e (List.mem_cons_self ..)
    unfold gU
    rw [if_neg (fun hc=>by have:=D6.1 hc;have:=zK e.1 n;omega),GS (fun x hx=>h x (List.mem_cons_of_mem _ hx))];rfl
theorem TM (hG:aV ns) (hi:i < ns.length) (hj:j < (nd ns i).ah.length):gU (ent ns i j).name (mP ns (ent ns i j)) (qM ns i j)=qM ns i (j+1):=by
  grind [Ql,GS,yM,FI]
theorem vH (hG:aV ns) (hi:i < ns.length) (hj:j < (nd ns i).ah.length):tgt ns (ent ns i j).id < ns.length/\(nd ns (tgt ns (ent ns i j).id)).id=(ent ns i j).id:=by
  have:=kg (hG.ah i hi j hj).at_
  exact⟨this.1,this.2.1⟩
theorem FJ {O:bX} {d x:Nat} {name:ByteArray} (h:t.k≠d):obj (qI O d name t) x=if x=d then { obj O d with ah:=gU name t (obj O d).ah } else if x=t.k then { obj O x with links:=(obj O x).links+1,up:=if t.kind=2 then some d else (obj O x).up } else obj O x:=by
  grind [aD,gU,obj,up,gM,qI]
theorem iJ.aa7 (hG:aV ns) (h:iJ X ns i j S) {d:Nat} (hd:Live S.idx ⟨d,2⟩) {n:ByteArray} (ha:a < ns.length) (hk:(nd ns a).kind=2) (hl:aL n (obj S.O d).ah=some (qZ (nd ns a))):∃ b q,b < ns.length/\d=gA (nd ns b)/\FE ns b q/\tgt ns (ent ns b q).id=a:=by
  obtain⟨b,hb,e⟩:=h.of hd
  have e:(⟨d,2⟩:Th)=⟨gA (nd ns b),(nd ns b).kind⟩:=e
  have e1:d=gA (nd ns b):=congrArg Th.k e
  subst e1
  obtain⟨l,u,ho⟩:=h.ob b hb
  have hm:=nL hl
  rw [ho] at hm
  obtain⟨q,h1,h2,_,h4⟩:=yM hm
  have ht:=vH hG hb h2
  have h5:gA (nd ns a)=gA (nd ns (tgt ns (ent ns b q).id)):=congrArg Th.k h4
  have h6:=uU hG ha ht.1 h5
  exact⟨b,q,hb,rfl,⟨hb,h2,by rw [← h6];exact hk⟩,h6.symm⟩
theorem iJ.below (hG:aV ns) (h:iJ X ns i j S) {dp:Nat->Nat} (hdp:FH ns dp) {s k:Nat} (hb:oz S.O s k):∀ {a b},a < ns.length->k=gA (nd ns a)->b < ns.length->s=gA (nd ns b)->dp b<=dp a:=by
  induction hb with
  | here=>
    grind [uU]
  | up hup _ ih=>
    intro a b ha e1 hb e2
    subst e1
    have hlv:=h.live hG ha
    obtain⟨h1,h2,n,h3⟩:=(h.inv.up _ hlv _).1 hup
    obtain⟨c,q,hc,e3,hD,e4⟩:=h.aa7 hG h2 ha h1 h3
    grind [FH,gA,nd]
theorem iJ.links (hG:aV ns) (h:iJ X ns i j S) (hi:i < ns.length) (hj:j < (nd ns i).ah.length) (hk:(mP ns (ent ns i j)).kind=2):(obj S.O (mP ns (ent ns i j)).k).links=0:=by
  have ht:=vH hG hi hj
  have hlv:Live S.idx (mP ns (ent ns i j)):=h.live hG ht.1
  rw [h.inv.links _ hlv]
  cases hz:jw S.idx S.O (mP ns (ent ns i j)).k with
  | zero=>rfl
  | succ z=>
    exfalso
    obtain⟨x,u,hu,e,he,e1⟩:=D3 h.inv.rise (show 0 < jw S.idx S.O (mP ns (ent ns i j)).k by omega)
    obtain⟨b,hb,rfl⟩:=h.of hu
    obtain⟨l,u,ho⟩:=h.ob b hb
    have he:e∈(obj S.O (gA (nd ns b))).ah:=he
    rw [ho] at he
    obtain⟨q,h1,h2,_,h4⟩:=yM he
    have ht2:=vH hG hb h2
    have h5:gA (nd ns (tgt ns (ent ns b q).id))=gA (nd ns (tgt ns (ent ns i j).id)):=by
      rw [h4] at e1;exact e1
    have h6:=uU hG ht2.1 ht.1 h5
    obtain⟨rfl,rfl⟩:=hG.uniq b q i j ⟨hb,h2,by rw [h6];exact hk⟩ ⟨hi,hj,hk⟩ hb hi h6
    grind [rL]
theorem iJ.look (hG:aV ns) (h:iJ X ns i j S) (hi:i < ns.length) (hj:j < (nd ns i).ah.length):(obj S.O (gA (nd ns i))).ah=qM ns i j/\aL (ent ns i j).name (obj S.O (gA (nd ns i))).ah=none/\(nd ns i).kind=2:=by
  obtain⟨l,u,ho⟩:=h.ob i hi
  have e1:(obj S.O (gA (nd ns i))).ah=qM ns i j:=by
    grind [qM,rL]
  refine⟨e1,by rw [e1];exact TL hG hi hj,?_⟩
  cases Decidable.em ((nd ns i).kind=2) with
  | inl h=>exact h
  | inr h=>have:=(hG.node i hi).ah h;omega
theorem iJ.gone (h:iJ X ns i j S) (ha:a < ns.length):(obj S.O (gA (nd ns a))).gone=false:=by
  obtain⟨l,u,ho⟩:=h.ob a ha
  rw [ho];rfl
theorem iJ.ne (hG:aV ns) (hi:i < ns.length) (hj:j < (nd ns i).ah.length) (hk:(nd ns i).kind=2):(mP ns (ent ns i j)).k≠gA (nd ns i):=fun e=>by
  have ht:=vH hG hi hj
  have h1:=uU hG ht.1 hi e
  obtain⟨dp,hdp⟩:=hG.deep
  have:=hdp i j ⟨hi,hj,by rw [h1];exact hk⟩
  rw [h1] at this
  exact Nat.lt_irrefl _ this
theorem iJ.step (hG:aV ns) (h:iJ X ns i j S) (hi:i < ns.length) (hj:j < (nd ns i).ah.length):iJ X ns i (j+1) (oh ns S (nd ns i) (ent ns i j)):=by
  obtain⟨l1,l2,l3⟩:=h.look hG hi hj
  have ht:=vH hG hi hj
  have hne:=iJ.ne hG hi hj l3
  have hld:Live S.idx ⟨gA (nd ns i),2⟩:=by
    have:=h.live hG hi
    unfold qZ at this
    rw [l3] at this
    exact this
  have hlt:Live S.idx (mP ns (ent ns i j)):=h.live hG ht.1
  have hX:S.X.ah=((bJ ns i+j:Nat):Int):=by rw [h.cap]
  have hsum:bJ ns i+j < 8192:=by
    have h1:bJ ns (i+1)<=bJ ns ns.length:=mH hi
    have h2:bJ ns (i+1)=bJ ns i+(nd ns i).ah.length:=rfl
    have h3:=hG.sum
    omega
  have h1:=h.inv.put (O':=qI S.O (gA (nd ns i)) (ent ns i j).name (mP ns (ent ns i j))) (ta:=(obj S.O (gA (nd ns i))).sec) (tb:=(obj S.O (gA (nd ns i))).nano) hld (h.gone hi) l2 (hG.ah i hi j hj).good hlt (h.gone ht.1) (fun hk=>⟨h.links hG hi hj hk,fun hb=>by
      obtain⟨dp,hdp⟩:=hG.deep
      have h2:=h.below hG hdp hb hi rfl ht.1 rfl
      have h3:=hdp i j ⟨hi,hj,hk⟩
      omega⟩) hne (by rw [hX];omega) (h.inv.mt _ hld).time (fun x=>FJ hne)
  refine⟨h1,h.idx,h.us,h.av,?_,fun a ha=>?_,fun x hx=>(FJ hne).trans (by rw [if_neg (hx i hi),if_neg (show ¬ x=(mP ns (ent ns i j)).k from hx _ ht.1)];exact h.free x hx)⟩
  ·show ({ S.X with ah:=S.X.ah+1 }:FM)=_
   rw [hX,h.cap]
   show (⟨_,_,_,_,_,_,_,_⟩:FM)=⟨_,_,_,_,_,_,_,_⟩
   congr 1
  obtain⟨l,u,ho⟩:=h.ob a ha
  show ∃ l u,obj (qI S.O (gA (nd ns i)) (ent ns i j).name (mP ns (ent ns i j))) (gA (nd ns a))=_
  rw [FJ hne]
  by_cases e:a=i
  ·subst e
   refine⟨l,u,?_⟩
   rw [if_pos rfl,l1,TM hG hi hj,ho]
   have hc:rL ns a (j+1) a=j+1:=by unfold rL;rw [if_neg (Nat.lt_irrefl _),if_pos rfl]
   rw [hc]
  have hc:rL ns i (j+1) a=rL ns i j a:=by
    unfold rL;rw [if_neg e,if_neg e]
  rw [if_neg (fun e2=>e (uU hG ha hi e2)),hc]
  split
  ·rw [ho];exact⟨_,_,rfl⟩
  exact⟨l,u,ho⟩
theorem iJ.next (h:iJ X ns i (nd ns i).ah.length S):iJ X ns (i+1) 0 S:=by
  refine⟨h.inv,h.idx,h.us,h.av,h.cap,fun a ha=>?_,h.free⟩
  obtain⟨l,u,ho⟩:=h.ob a ha
  grind [rL,nd]
theorem iJ.full (h:iJ X ns i j S):Inv S:=by
  refine⟨h.inv,fun t ht hg=>?_⟩
  obtain⟨a,ha,rfl⟩:=h.of ht
  have:(obj S.O (gA (nd ns a))).gone=true:=hg
  rw [h.gone ha] at this
  cases this
theorem iJ.graph (hG:aV ns) (h:iJ X ns ns.length 0 S):aE S=ns:=by
  unfold aE
  rw [h.idx]
  unfold Dh
  rw [List.map_map]
  refine List.ext_getElem? (fun a=>?_)
  rw [List.getElem?_map]
  by_cases ha:a < ns.length
  ·rw [AQ ha]
   refine congrArg some ?_
   show gF S.O (nd ns a).id ⟨gA (nd ns a),(nd ns a).kind⟩=nd ns a
   unfold gF
   obtain⟨l,u,ho⟩:=h.ob a ha
   rw [ho]
   have he:(qM ns a (rL ns ns.length 0 a)).map (dL S.O)=(nd ns a).ah:=by
     unfold rL
     rw [if_pos ha]
     unfold qM
     rw [List.take_of_length_le (Nat.le_refl _),List.map_map]
     refine List.ext_getElem? (fun q=>?_)
     rw [List.getElem?_map]
     by_cases hq:q < (nd ns a).ah.length
     ·rw [JL hq]
      refine congrArg some ?_
      have ht:=vH hG ha hq
      obtain⟨l,u,ho⟩:=h.ob _ ht.1
      have e1:(obj S.O (mP ns (en (nd ns a).ah q)).k).id=(en (nd ns a).ah q).id:=by
        show (obj S.O (gA (nd ns (tgt ns (ent ns a q).id)))).id=(ent ns a q).id
        rw [ho];exact ht.2
      show (⟨(en (nd ns a).ah q).name,(obj S.O (mP ns (en (nd ns a).ah q)).k).id⟩:cW)=_
      rw [e1]
     rw [List.getElem?_eq_none (by omega)];rfl
   show (⟨_,_,_,_,_,_,_,_,_,List.map (dL S.O) (qM ns a (rL ns ns.length 0 a))⟩:aA)=_
   rw [he]
   rfl
  rw [List.getElem?_eq_none (by omega)];rfl
end ah
end
section
open Go.RowKit aX aq Go.Maps
theorem Qm {l:List Int} {j:Nat} (h:j < l.length):(ints l)[j]?=some (.int .i64 (l.getD j 0)):=by
  simp [ints,List.getD_eq_getElem?_getD,h]
theorem Ep {ks:List Int} (h:aq.bH ks) {i j:Nat} (hij:i < j) (hj:j < ks.length):ks.getD i 0 < ks.getD j 0:=by
  have:=List.pairwise_iff_getElem.1 h i j (by omega) hj hij
  grind
theorem wG {ks:List Int} {j:Nat} (h:j < ks.length):ks.getD j 0∈ks:=by
  grind
end
section
open Go.RowKit aX aq Go.Maps
theorem iW.get {β:Bs} {A:Option Addr} {l:List Int} (h:bT β A (ints l)) {j:Nat} (hj:j < l.length):A=some ⟨aP A,aO A,none⟩/\Rd β ⟨aP A,aO A+j * 1,none⟩ (.int .i64 (l.getD j 0)):=by
  have:=h j _ (Qm hj)
  rw [Nat.mul_one];exact this
theorem iW.hd {β:Bs} {A:Option Addr} {l:List Int} (h:bT β A (ints l)) {j:Nat} (hj:j < l.length):A=some ⟨aP A,aO A,none⟩:=(iW.get h hj).1
theorem iW.rd {β:Bs} {A:Option Addr} {l:List Int} (h:bT β A (ints l)) {j:Nat} (hj:j < l.length):Rd β ⟨aP A,aO A+j * 1,none⟩ (.int .i64 (l.getD j 0)):=(iW.get h hj).2
def gn (us:Used Int):List Int:=us.map (·.2)
theorem jo (us:Used Int):(gn us).length=us.length:=by simp [gn]
theorem gD {V:Type} (us:Used V):(keys us).length=us.length:=by simp [keys]
def qx:List Int->Int->Int
  | [],_=>-1
  | k::r,h=>if k=h then 0 else if qx r h < 0 then -1 else qx r h+1
theorem JM {ks:List Int} {h:Int}:(∀ j,j < ks.length->¬ ks.getD j 0=h)->qx ks h = -1:=by
  induction ks with
  | nil=>intro _;rfl
  | cons k r ih=>
    intro hn
    have h0:¬ k=h:=hn 0 (by simp)
    have:=ih (fun j hj=>by have:=hn (j+1) (by simpa using hj);simpa using this)
    rw [qx,if_neg h0,this];rfl
theorem Qn:∀ {ks:List Int} {h:Int} {i:Nat},i < ks.length->ks.getD i 0=h->(∀ j,j < i->¬ ks.getD j 0=h)->qx ks h=i
  | k::r,h,0,_,e,_=>by
    have e:k=h:=e
    rw [qx,if_pos e];rfl
  | k::r,h,i+1,hi,e,hn=>by
    have h0:¬ k=h:=hn 0 (by omega)
    have:=Qn (ks:=r) (h:=h) (i:=i) (by simpa using hi) (by simpa using e) (fun j hj=>by have:=hn (j+1) (by omega);simpa using this)
    rw [qx,if_neg h0,this,if_neg (by omega)]
    omega
theorem Mv {ks:List Int} {h:Int} (hm:h∈ks):∃ i:Nat,qx ks h=i/\i < ks.length/\ks.getD i 0=h:=by
  induction ks with
  | nil=>cases hm
  | cons k r ih=>
    by_cases e:k=h
    ·exact⟨0,by rw [qx,if_pos e];rfl,by simp,e⟩
    rcases List.mem_cons.1 hm with e2|hm
    ·exact absurd e2.symm e
    obtain⟨i,h1,h2,h3⟩:=ih hm
    exact⟨i+1,by rw [qx,if_neg e,h1,if_neg (by omega)];omega,by simpa using h2,by simpa using h3⟩
theorem Mw {ks:List Int} {h:Int} (hm:h∉ks):qx ks h = -1:=JM (fun _ hj e=>hm (e ▸ wG hj))
theorem Mx {ks:List Int} {h:Int}:0<=qx ks h↔h∈ks:=by
  grind [Mv,Mw]
theorem o5:∀ (ks:List Int) (h:Int),iV h ks<=h+ks.length
  | [],h=>by simp [iV]
  | k::r,h=>by
    rw [iV]
    split
    ·have:=o5 r (h+1);simp only [List.length_cons];omega
    simp only [List.length_cons];omega
theorem least_le {V:Type} (us:Used V):aq.least us<=1+us.length:=by
  have:=o5 (keys us) 1
  rw [gD] at this
  exact this
theorem N7 {V:Type} {us:Used V} (hr:aq.bH (keys us)) (hp:∀ x∈keys us,1<=x):1<=aq.least us/\aq.least us∉keys us/\∀ x,1<=x->x < aq.least us->x∈keys us:=nh (keys us) 1 hr hp
section ins
variable {h v:Int}
theorem JN:∀ {l:Used Int},(∀ p∈l,¬ h < p.1)->ins h v l=l++[(h,v)]
  | [],_=>rfl
  | p::r,hn=>by
    rw [ins,if_neg (hn p (List.mem_cons_self ..)),JN (fun q hq=>hn q (List.mem_cons_of_mem _ hq))];rfl
theorem GU:∀ {l:Used Int} {x:Int×Int},(∀ p∈l,¬ h < p.1)->h < x.1->ins h v (l++[x])=l++[(h,v),x]
  | [],x,_,hx=>by show ins h v [x]=_;rw [ins,if_pos hx];rfl
  | p::r,x,hn,hx=>by
    rw [List.cons_append,ins,if_neg (hn p (List.mem_cons_self ..)),GU (fun q hq=>hn q (List.mem_cons_of_mem _ hq)) hx];rfl
theorem JO:∀ {l:Used Int} {x:Int×Int},(∃ p∈l,h < p.1)->ins h v (l++[x])=ins h v l++[x]
  | [],_,hd=>by obtain⟨p,hp,_⟩:=hd;cases hp
  | p::r,x,hd=>by
    rw [List.cons_append,ins,ins]
    split
    ·rfl
    rename_i hp
    obtain⟨q,hq,hlt⟩:=hd
    rcases List.mem_cons.1 hq with e|hq
    ·exact absurd (e ▸ hlt) hp
    rw [JO ⟨q,hq,hlt⟩];rfl
end ins
def pr (us:Used Int) (i:Nat):Int×Int:=us.getD i (0,0)
theorem sK {us:Used Int} {i:Nat} (hi:i < us.length):us.take (i+1)=us.take i++[pr us i]:=by
  rw [List.take_add_one]
  grind [pr]
theorem uV {us:Used Int} {i:Nat} (hi:i < us.length):(keys us).getD i 0=(pr us i).1/\(gn us).getD i 0=(pr us i).2:=by
  grind [keys,gn,pr]
structure iX (us:Used Int) (h v:Int) (i:Nat) (d:Bool) (q:Used Int):Prop where
  yes:d=true->(∃ p∈us.take i,h < p.1)/\q=ins h v (us.take i)
  no:d=false->(∀ p∈us.take i,¬ h < p.1)/\q=us.take i
  len:q.length=i+(if d then 1 else 0)
section put
variable {us q:Used Int} {h v:Int} {i:Nat} {d:Bool}
theorem iX.zero:iX us h v 0 false []:=⟨fun e=>(by cases e),fun _=>⟨fun p hp=>(by simp at hp),(by simp)⟩,rfl⟩
theorem iX.hit (hp:iX us h v i false q) (hi:i < us.length) (hk:h < (pr us i).1):iX us h v (i+1) true (q++[(h,v)]++[pr us i]):=by
  obtain⟨h1,rfl⟩:=hp.no rfl
  refine⟨fun _=>⟨⟨pr us i,by rw [sK hi];simp,hk⟩,by rw [sK hi,GU h1 hk];simp⟩,fun e=>(by cases e),?_⟩
  simp
  omega
theorem iX.miss (hp:iX us h v i false q) (hi:i < us.length) (hk:¬ h < (pr us i).1):iX us h v (i+1) false (q++[pr us i]):=by
  obtain⟨h1,rfl⟩:=hp.no rfl
  refine⟨fun e=>(by cases e),fun _=>⟨fun p hpm=>?_,(sK hi).symm⟩,by simp;omega⟩
  grind [sK]
theorem iX.more (hp:iX us h v i true q) (hi:i < us.length):iX us h v (i+1) true (q++[pr us i]):=by
  obtain⟨⟨p,h1,h2⟩,rfl⟩:=hp.yes rfl
  refine⟨fun _=>⟨⟨p,by rw [sK hi];exact List.mem_append_left _ h1,h2⟩,by rw [sK hi,JO ⟨p,h1,h2⟩]⟩,fun e=>(by cases e),?_⟩
  have:=hp.len
  simp at this ⊢
  omega
theorem iX.last (hp:iX us h v us.length false q):q++[(h,v)]=ins h v us:=by
  obtain⟨h1,rfl⟩:=hp.no rfl
  grind [JN]
theorem iX.end_ (hp:iX us h v us.length true q):q=ins h v us:=by
  obtain⟨_,rfl⟩:=hp.yes rfl
  rw [List.take_length]
end put
theorem TN (q:Used Int) (x:Int×Int):gn (q++[x])=gn q++[x.2]:=by simp [gn]
theorem GJ (q:Used Int) (x:Int×Int):keys (q++[x])=keys q++[x.1]:=by simp [keys]
theorem JQ {us:Used Int} {h:Int} {i:Nat} (hi:i < us.length):del h (us.take (i+1))=if (pr us i).1=h then del h (us.take i) else del h (us.take i)++[pr us i]:=by
  grind [sK,del,pr]
theorem N8 {us:Used Int} {h:Int}:(del h us).length<=us.length:=List.length_filter_le ..
theorem Er {us:Used Int} (hr:aq.bH (keys us)) {i j:Nat} (hi:i < us.length) (hj:j < us.length) (e:(pr us i).1=(pr us j).1):i=j:=by
  rw [← (uV hi).1,← (uV hj).1] at e
  rcases Nat.lt_trichotomy i j with h|h|h
  ·have:=Ep hr h (by rw [gD];exact hj);omega
  ·exact h
  have:=Ep hr h (by rw [gD];exact hi);omega
theorem Yc {us:Used Int} (hr:aq.bH (keys us)) {i:Nat} (hi:i < us.length) {h:Int} (e:(pr us i).1=h):aq.get us h=some (pr us i).2:=by
  have hm:pr us i∈us:=by unfold pr;rw [List.getD_eq_getElem?_getD,List.getElem?_eq_getElem hi];exact List.getElem_mem hi
  unfold aq.get
  cases hf:us.find? (fun p=>p.1 == h) with
  | none=>
    grind
  | some p=>
    have h1:=List.mem_of_find?_eq_some hf
    have h2:=List.find?_some hf
    obtain⟨j,hj,rfl⟩:=List.getElem_of_mem h1
    grind [pr,Er]
end
section
open Go.RowKit Go.Maps aX aq
noncomputable section
structure RS where
  ns:List aA
  gone:List Int
  us:Used Int
  av:Int
  cN:Int
  cB:Int
  cH:Int
  cS:Int
  cZ:Int
  last:Int
def ji (name:ByteArray) (id:Int):List cW->List cW
  | []=>[⟨name,id⟩]
  | e::r=>if ¬ eH e.name name then ⟨name,id⟩::e::r else e::ji name id r
def ol (name:ByteArray) (es:List cW):List cW:=es.filter (fun e=>decide (e.name≠name))
def jO (s z:Int) (ns:List aA) (d:Nat) (es:List cW):List aA:=ns.set d { nd ns d with ah:=es,sec:=s,nano:=z }
def bn (ns:List aA) (d:Nat) (name:ByteArray):Int:=match wB (nd ns d).ah name with|none=>-1|some j=>fP ns (en (nd ns d).ah j).id
def qy (ns:List aA) (id:Int):Int:=(jV ns id ns.length:Int)
def nB (name:ByteArray):List cW->Int->Int
  | [],z=>z
  | e::r,z=>nB name r (if e.name=name then e.id else z)
variable (R:RS)
def eN (h:Int):Except Int Nat:=match aq.get R.us h with|none=>.error 131|some id=>.ok (tgt R.ns id)
def d8 (h:Int) (name:ByteArray) (need:Int):Except Int Nat:=
  match eN R h with
  | .error e=>.error e
  | .ok d=>
    if (nd R.ns d).kind=2 then
      if (nd R.ns d).id∈R.gone then .error 170
      else if bO name then if bits BinOp.and .i64 (nd R.ns d).mode need=need then .ok d else .error 175
      else .error 95
    else .error 173
def bD (d:Nat) (name:ByteArray) (id:Int):RS:={ R with ns:=jO R.cS R.cZ R.ns d (ji name id (nd R.ns d).ah) }
def bA (d:Nat) (name:ByteArray) (free:Bool):RS:=
  let ns:=jO R.cS R.cZ R.ns d (ol name (nd R.ns d).ah)
  let id:=nB name (nd R.ns d).ah 0
  { R with ns:=ns,gone:=if free=true/\qy ns id=0 then R.gone++[id] else R.gone }
def om (n:aA):Bool:=decide (n.id∈R.gone->n.id∈gn R.us)
def dx:RS:={ R with ns:=R.ns.filter (om R),gone:=((R.ns.filter (om R)).filter (fun n=>decide (n.id∈R.gone))).map aA.id }
def sM (d:Nat) (name:ByteArray) (n:aA):RS:=
  let id:=R.last+1
  let R1:=bD { R with last:=id } d name id
  { R1 with ns:=R1.ns++[{ n with id:=id,sec:=R.cS,nano:=R.cZ }] }
def rN:Prop:=(R.ns.length:Int) < R.cN/\R.last < 1099511627776/\(bJ R.ns R.ns.length:Int) < 8192
instance:Decidable (rN R):=inferInstanceAs (Decidable (_/\_/\_))
abbrev sO:=RS×Int×Int
def iF (k:Nat):sO:=
  if (R.us.length:Int) < R.cH then ({ R with us:=ins (least R.us) (nd R.ns k).id R.us,av:=max R.av ((R.us.length:Int)+1) },least R.us,0) else (R,0,130)
def lK (k:Nat) (bs:List UInt8):sO:=
  if bs=[] then (R,0,0)
  else if R.cB - (cK R.ns R.ns.length:Int)<=0 then (R,0,176)
  else
    let n:=(min (bs.length:Int) (R.cB - (cK R.ns R.ns.length:Int))).toNat
    ({ R with ns:=R.ns.set k { nd R.ns k with data:=(nd R.ns k).data++bs.take n,sec:=R.cS,nano:=R.cZ } },(n:Int),0)
def bK (d:Nat) (name:ByteArray) (n:aA):RS×Int:=
  if n.kind=3/\iT n.target≠0 then (R,iT n.target)
  else if 0<=bn R.ns d name then (R,171)
  else if rN R then (sM R d name n,0) else (R,177)
def fZ (d:Nat) (name:ByteArray) (dir:Bool):RS×Int:=
  if 0<=bn R.ns d name then
    let k:=(bn R.ns d name).toNat
    if dir=false/\(nd R.ns k).kind=2 then (R,172)
    else if dir=true/\(nd R.ns k).kind≠2 then (R,173)
    else if dir=true/\0 < (nd R.ns k).ah.length then (R,178)
    else (dx (bA R d name true),0)
  else (R,170)
def kF (ns:List aA) (id:Int):Nat->Int
  | 0=>-1
  | i+1=>if 0 < fq (nd ns i).ah id (nd ns i).ah.length then (i:Int) else kF ns id i
def fU (ns:List aA) (top:Nat):Nat->Nat->Bool
  | 0,_=>false
  | k+1,d=>if d=top then true else if kF ns (nd ns d).id ns.length < 0 then false else fU ns top k (kF ns (nd ns d).id ns.length).toNat
def eW (f:Nat) (name:ByteArray) (to:Nat) (toName:ByteArray):RS×Int:=
  if 0<=bn R.ns f name then
    let k:=(bn R.ns f name).toNat
    if (nd R.ns k).kind=2/\fU R.ns k (R.ns.length+1) to=true then (R,174)
    else if bn R.ns to toName=(k:Int) then (R,0)
    else if 0<=bn R.ns to toName then
      if (nd R.ns (bn R.ns to toName).toNat).kind=2 then (R,172)
      else if (nd R.ns k).kind=2 then (R,173)
      else (dx (bD (bA (bA R to toName true) f name false) to toName (nd R.ns k).id),0)
    else (dx (bD (bA R f name false) to toName (nd R.ns k).id),0)
  else (R,170)
def fN (c:ar) (want:Int):sO:=
  match d8 R c.handle c.name 64 with
  | .error e=>(R,0,e)
  | .ok d=>
    if 0<=bn R.ns d c.name then
      let k:=(bn R.ns d c.name).toNat
      if (nd R.ns k).kind=3 then (R,0,174)
      else if (nd R.ns k).kind≠want then (R,0,if (nd R.ns k).kind=1 then 173 else 172)
      else iF R k
    else (R,0,170)
def mI (c:ar) (need:Int):Except Int (Nat×Nat):=
  match d8 R c.handle c.name need with
  | .error e=>.error e
  | .ok f=>match d8 R c.other c.text 192 with
    | .error e=>.error e
    | .ok to=>.ok (f,to)
def jg (c:ar):sO:=
  match eN R c.handle with
  | .error e=>(R,0,e)
  | .ok k=>
    if (nd R.ns k).kind=2/\(nd R.ns k).id∈R.gone then (R,0,170)
    else if gy c.mode then
      if mh c.uid/\mh c.gid then
        if dw c.sec c.nano then ({ R with ns:=R.ns.set k { nd R.ns k with mode:=c.mode,uid:=c.uid,gid:=c.gid,sec:=c.sec,nano:=c.nano } },0,0)
        else (R,0,20)
      else (R,0,11)
    else (R,0,120)
def eO (c:ar) (d:Nat):sO:=
  if c.op=8\/c.op=14 then ((fZ R d c.name (decide (c.op=14))).1,0,(fZ R d c.name (decide (c.op=14))).2)
  else if c.op=6 then ((bK R d c.name ⟨0,3,511,0,0,0,0,[],c.text,[]⟩).1,0,(bK R d c.name ⟨0,3,511,0,0,0,0,[],c.text,[]⟩).2)
  else if gy c.mode then
    if c.op=5 then
      let m:=bK R d c.name ⟨0,1,c.mode,0,0,0,0,[],⟨#[]⟩,[]⟩
      if m.2=0 then iF m.1 (m.1.ns.length - 1) else (m.1,0,m.2)
    else ((bK R d c.name ⟨0,2,c.mode,0,0,0,0,[],⟨#[]⟩,[]⟩).1,0,(bK R d c.name ⟨0,2,c.mode,0,0,0,0,[],⟨#[]⟩,[]⟩).2)
  else (R,0,120)
def rO (c:ar):sO:=
  match mI R c 64 with
  | .error e=>(R,0,e)
  | .ok (f,to)=>
    if 0<=bn R.ns f c.name then
      if (nd R.ns (bn R.ns f c.name).toNat).kind=2 then (R,0,172)
      else if 0<=bn R.ns to c.text then (R,0,171)
      else if (bJ R.ns R.ns.length:Int) < 8192 then (bD R to c.text (nd R.ns (bn R.ns f c.name).toNat).id,0,0)
      else (R,0,177)
    else (R,0,170)
def aS (c:ar):sO:=
  if c.op=1 then
    if 0<=fP R.ns c.other then if (nd R.ns (tgt R.ns c.other)).kind=2 then iF R (tgt R.ns c.other) else (R,0,173)
    else (R,0,141)
  else if c.op=2 then fN R c 2
  else if c.op=3 then fN R c 1
  else if c.op=4\/c.op=5\/c.op=6\/c.op=8\/c.op=14 then
    match d8 R c.handle c.name 192 with
    | .error e=>(R,0,e)
    | .ok d=>eO R c d
  else if c.op=7 then rO R c
  else if c.op=9 then
    match eN R c.handle with
    | .error e=>(R,0,e)
    | .ok k=>if (nd R.ns k).kind=2 then (R,0,172) else lK R k c.data
  else if c.op=10 then jg R c
  else if c.op=13 then
    if c.handle∈keys R.us then (dx { R with us:=del c.handle R.us },0,0) else (dx R,0,131)
  else if c.op=15 then
    match mI R c 192 with
    | .error e=>(R,0,e)
    | .ok (f,to)=>((eW R f c.name to c.text).1,0,(eW R f c.name to c.text).2)
  else (R,0,230)
def BQ (c:ar) (k:Nat):ar:={ c with answer:=(nd R.ns k).id,other:=(nd R.ns k).kind,mode:=(nd R.ns k).mode,uid:=(nd R.ns k).uid,gid:=(nd R.ns k).gid,sec:=(nd R.ns k).sec,nano:=(nd R.ns k).nano,code:=0 }
def Es (c:ar) (e:Int):ar:={ c with answer:=0,other:=0,mode:=0,uid:=0,gid:=0,sec:=0,nano:=0,code:=e }
def mV (c:ar):ar:=
  if c.op=12 then
    match d8 R c.handle c.name 64 with
    | .error e=>Es c e
    | .ok d=>if 0<=bn R.ns d c.name then BQ R c (bn R.ns d c.name).toNat else Es c 170
  else match eN R c.handle with
    | .error e=>Es c e
    | .ok k=>BQ R c k
def p4 (c:ar):RS×ar:=
  if c.op=11\/c.op=12 then (R,mV R c)
  else if (aS R c).2.2=0 then ((aS R c).1,{ c with answer:=(aS R c).2.1,code:=0 }) else (R,{ c with answer:=0,code:=(aS R c).2.2 })
end
end
section
open Go.RowKit Go.Maps aX aq
structure RL where
  A:Option Addr
  c:Nat
  L:Lay
  G:Option Addr
  cg:Nat
  H:Option Addr
  ch:Nat
  V:Option Addr
  cv:Nat
def rV (R:RS) (Y:RL):List Value:=[.slice Y.A R.ns.length Y.c,.slice Y.G R.gone.length Y.cg,.int .i64 R.cH,.int .i64 R.av,.slice Y.H R.us.length Y.ch,.slice Y.V R.us.length Y.cv,.int .i64 R.cN,.int .i64 R.cB,.int .i64 R.cH,.int .i64 R.cS,.int .i64 R.cZ,.int .i64 R.last]
abbrev cM (c:ar) (A:Option Addr) (p:Nat):ar:={ c with dA:=A,dC:=p }
def rW (R:RS) (A:Option Addr) (c:Nat) (G:Option Addr) (cg:Nat) (H:Option Addr) (ch:Nat) (V:Option Addr) (cv:Nat):List Value:=rV R ⟨A,c,⟨fun _=>none,fun _=>none,fun _=>0,fun _=>0⟩,G,cg,H,ch,V,cv⟩
def rZ:List Value:=[.slice none 0 0,.slice none 0 0,.int .i64 0,.int .i64 0,.slice none 0 0,.slice none 0 0,.int .i64 0,.int .i64 0,.int .i64 0,.int .i64 0,.int .i64 0,.int .i64 0]
structure RowsAt (β:Bs) (R:RS) (Y:RL):Prop where
  g:bT β Y.G (ints R.gone)
  h:bT β Y.H (ints (keys R.us))
  v:bT β Y.V (ints (gn R.us))
structure cD (β:Bs) (R:RS) (Y:RL):Prop extends RowsAt β R Y where
  n:aB β Y.A R.ns Y.L
structure RB (R:RS):Prop where
  ns:R.ns.length<=4097
  gone:R.gone.length<=8200
  us:R.us.length<=1024
  ah:bJ R.ns R.ns.length<=8200
  dat:cK R.ns R.ns.length<=140737488355328
structure RC (R:RS):Prop extends RB R where
  rise:bH R.ns
  hand:∀ id∈gn R.us,0<=fP R.ns id
  kind:∀ i,i < R.ns.length->(nd R.ns i).kind=1\/(nd R.ns i).kind=2\/(nd R.ns i).kind=3
  cap:0<=R.cN/\R.cN<=4096/\0<=R.cB/\R.cB<=1099511627776/\0<=R.cH/\R.cH<=1024/\0<=R.last/\R.last<=1099511627776/\0<=R.av/\R.av<=R.cH
  usr:aq.bH (keys R.us)
  tM:∀ z∈keys R.us,1<=z
  Al:(R.us.length:Int)<=R.cH
section d
variable {β β':Bs} {R:RS} {Y:RL} {i:Nat}
theorem RowsAt.le (h:RowsAt β R Y) (hle:β.le β'):RowsAt β' R Y:=⟨h.g.le hle,h.h.le hle,h.v.le hle⟩
theorem cD.le (h:cD β R Y) (hle:β.le β'):cD β' R Y:=⟨h.toRowsAt.le hle,h.n.le hle⟩
theorem RB.row (h:RB R) (hi:i < R.ns.length):(nd R.ns i).ah.length<=8200:=by
  have h1:=mH (ns:=R.ns) (show i+1<=R.ns.length by omega)
  have h2:=h.ah
  grind [bJ,nd]
end d
end
section
open Go.RowKit Go.Maps aX aq
section l
variable {ns:List aA} {es:List cW} {name:ByteArray} {id:Int} {i j d top k:Nat} {R:RS} {l:List Int}
theorem Qo (hj:j < es.length) (e:(en es j).name=name) (hno:∀ q,q < j->¬ (en es q).name=name):wB es name=some j:=by
  unfold wB
  rw [List.findIdx?_eq_some_iff_getElem]
  have hg:∀ k (hk:k < es.length),en es k=es[k]:=fun k hk=>by
    grind [en]
  grind
theorem Qp (hj:j < (nd ns d).ah.length) (e:(en (nd ns d).ah j).name=name) (hno:∀ q,q < j->¬ (en (nd ns d).ah q).name=name):fP ns (en (nd ns d).ah j).id=bn ns d name:=by
  unfold bn;rw [Qo hj e hno]
theorem N9 (hno:∀ q,q < (nd ns d).ah.length->¬ (en (nd ns d).ah q).name=name):(-1:Int)=bn ns d name:=by
  unfold bn;rw [NZ hno]
theorem WR (hj:j < l.length) (e:l.getD j 0=id):true=decide (id∈l):=by
  grind
theorem TP (hno:∀ q,q < l.length->¬ l.getD q 0=id):false=decide (id∈l):=by
  refine (decide_eq_false (fun h=>?_)).symm
  obtain⟨j,hj,e⟩:=List.getElem_of_mem h
  grind
def wH (ns:List aA) (id:Int) (i j:Nat):Int:=if 0 < fq (nd ns i).ah id j then (i:Int) else kF ns id i
theorem TQ:kF ns id i=wH ns id i 0:=by unfold wH;rw [if_neg (by unfold fq;omega)]
theorem WS:wH ns id i (nd ns i).ah.length=kF ns id (i+1):=rfl
theorem WT (e:(en (nd ns i).ah j).id=id):(i:Int)=wH ns id i (j+1):=by unfold wH;rw [if_pos (by have:=En e;omega)]
theorem TR (e:¬ (en (nd ns i).ah j).id=id):wH ns id i j=wH ns id i (j+1):=by unfold wH;rw [Cu e]
theorem Qq:∀ n:Nat,-1<=kF ns id n/\kF ns id n < n
  | 0=>⟨by unfold kF;omega,by unfold kF;omega⟩
  | n+1=>by
    have:=Qq n
    unfold kF
    split<;>omega
theorem Qr:fU ns d (k+1) d=true:=by unfold fU;rw [if_pos rfl]
theorem Oa (h:¬ d=top) (hu:kF ns (nd ns d).id ns.length < 0):fU ns top (k+1) d=false:=by unfold fU;rw [if_neg h,if_pos hu]
theorem TS (h:¬ d=top) (hu:¬ kF ns (nd ns d).id ns.length < 0):fU ns top (k+1) d=fU ns top k (kF ns (nd ns d).id ns.length).toNat:=by
  grind [fU]
end l
end
section
open Go.RowKit Go.Maps aX aq
theorem JR {V:Type} {g:Int×V->Nat}:∀ {a b:Used V},dR g (a++b)=dR g a+dR g b
  | [],b=>(Nat.zero_add _).symm
  | p::r,b=>by
    show g p+dR g (r++b)=g p+dR g r+dR g b
    rw [JR];omega
theorem LD {ns:List aA} {i j:Nat} (h:i<=j):cK ns i<=cK ns j:=by
  induction j with
  | zero=>rw [Nat.le_zero.1 h];exact Nat.le_refl _
  | succ j ih=>
    grind [cK]
theorem Et {ns:List aA} {i:Nat} (h:i<=ns.length):cK ns i<=cK ns ns.length:=LD h
section at_
variable {S:aI} {i j:Nat}
theorem lu (hi:i < S.idx.length):nd (aE S) i=gF S.O (dS S i) (fO S i):=by
  grind [nd,aE,tT]
theorem Yd {t:Th} (hl:Live S.idx t):∃ i,i < S.idx.length/\fO S i=t/\dS S i=(t.k:Int):=by
  obtain⟨i,hi,e⟩:=List.getElem_of_mem (get_mem hl)
  have h1:=tT hi
  grind
theorem wK (f:aM->Nat) (s:List aA->Nat->Nat) (h0:∀ ns,s ns 0=0) (hs:∀ k,k < S.idx.length->s (aE S) (k+1)=s (aE S) k+f (obj S.O (fO S k).k)):∀ k,k<=S.idx.length->s (aE S) k=dR (fun p=>f (obj S.O p.2.k)) (S.idx.take k)
  | 0,_=>by rw [h0];rfl
  | k+1,hk=>by
    rw [hs k hk,wK f s h0 hs k (by omega),List.take_add_one,tT hk,JR]
    rfl
theorem JS:cK (aE S) S.idx.length=bytes S.idx S.O:=by
  have h:=wK (S:=S) (fun o=>o.data.length) cK (fun _=>rfl) (fun k hk=>by show cK (aE S) k+_=_;rw [lu hk];rfl) S.idx.length (Nat.le_refl _)
  rw [List.take_length] at h
  exact h
theorem AU:bJ (aE S) S.idx.length=tot S.idx S.O:=by
  have h:=wK (S:=S) (fun o=>o.ah.length) bJ (fun _=>rfl) (fun k hk=>by
    show bJ (aE S) k+_=_
    rw [lu hk]
    show _+((obj S.O (fO S k).k).ah.map _).length=_
    rw [List.length_map]) S.idx.length (Nat.le_refl _)
  rw [List.take_length] at h
  exact h
end at_
end
section
open Go.RowKit aX aq Go.Maps
section ints
variable {β:Bs} {A:Option Addr} {l:List Int} {j:Nat}
theorem oJ.get (h:bT β A (ints l)) (hj:j < l.length):A=some ⟨aP A,aO A,none⟩/\Rd β ⟨aP A,aO A+j * 1,none⟩ (.int .i64 (l.getD j 0)):=by
  grind [ints,bT,aP,aO,Rd]
theorem oJ.hd (h:bT β A (ints l)) (hj:j < l.length):A=some ⟨aP A,aO A,none⟩:=(oJ.get h hj).1
theorem oJ.rd (h:bT β A (ints l)) (hj:j < l.length):Rd β ⟨aP A,aO A+j * 1,none⟩ (.int .i64 (l.getD j 0)):=(oJ.get h hj).2
end ints
end
section
open Go.RowKit Go.Maps aX aq
attribute [local irreducible] ak aU af ai bZ
theorem vJ {β:Bs} (Z:RS) (Y:RL) (hR:cD β Z Y) (hB:RB Z) (id:Int) :
    Spec Tryz.prog β 109 #[.agg ⟨rV Z Y⟩,vI (id)] [] (fun v l=>v=.bool (decide (id∈Z.gone))/\l=[]):=by
 refine SE Tryz.func109 Tryz.ntmps109 (fun R=>?_)
 refine SR (jN 2 [2] (fun _=>[]) (fun _=>[]) (fun b1=>.blk b1 (rV Z Y) 42) (fun b1=>?_))
 refine NN (af.seq (SR (jK 1 [5] [] ?_)))
 refine NN (af.block ?_)
 refine lJ (fun (i:Nat)=>(i<=Z.gone.length)/\(∀ q,q < i->¬ Z.gone.getD q 0=id)) (fun (i:Nat)=>Z.gone.length - i) (fun (i:Nat)=>[(1,vI (id)),(2,vP b1),(5,vI ↑i)]) (fun (i:Nat)=>[.abs R,.blk b1 (rV Z Y) 42]) 0 [0,1] (⟨Nat.zero_le _,fun q hq=>absurd hq (Nat.not_lt_zero q)⟩) ?_
 rintro i ⟨hi,hno⟩
 have hbg:=hB.gone
 refine af.seq (SR (jK 5 [10] [(2,a_ 1 b1)] ?_))
 refine NN (cP ((((i:Nat):Int):Int) < (((Z.gone.length:Nat):Int):Int)) (fun h10=>?_) (fun h10=>?_))
 ·refine af.skip (NX (af.seq (af.block (SR ?_))))
  refine jK 7 [19] [(1,a_ 1 b1),(3,x_ i Z.gone.length (oJ.hd (l:=Z.gone) hR.g (j:=i) (by grind))),(4,r_ (oJ.rd (l:=Z.gone) hR.g (j:=i) (by grind)))] ?_
  refine NN (cP (((Z.gone.getD i 0):Int)=(id:Int)) (fun hhit=>?_) (fun hhit=>?_))
  ·refine SR (jK 1 [4] [] ?_)
   refine NN (af.ret (ai.au (ai.aj (ai.aj (ai.au (ai.aj ?_))))))
   exact RT _ [0] (⟨congrArg Value.bool (WR (j:=i) (by omega) hhit),rfl⟩)
  refine af.skip (ai.ax (NX (af.region ?_)))
  refine jK 3 [5] [(1,wJ ((i:Int)+1) (↑(i+1)))] ?_
  refine NL ?_
  exact tJ ((i+1)) [0,1] (⟨by omega,fun q hq=>by grind⟩)
 refine af.exit (ai.aC (ai.aC (ai.aW (NX (SR ?_)))))
 refine jK 1 [4] [] ?_
 refine NN (af.ret ?_)
 exact RT _ [0] (⟨congrArg Value.bool (TP (fun q hq=>hno q (by omega))),rfl⟩)
theorem JT {β:Bs} (Z:RS) (Y:RL) (hR:cD β Z Y) (hB:RB Z) :
    Spec Tryz.prog β 47 #[.agg ⟨rV Z Y⟩] [] (fun v l=>v=vI ((cK Z.ns Z.ns.length:Nat):Int)/\l=[]):=by
 refine SE Tryz.func47 Tryz.ntmps47 (fun R=>?_)
 refine SR (jN 2 [1] (fun _=>[]) (fun _=>[]) (fun b2=>.blk b2 (rV Z Y) 42) (fun b2=>?_))
 refine NS (jK 1 [3] [] ?_)
 refine NN (af.seq (SR (jK 1 [4] [] ?_)))
 refine NN (af.block ?_)
 refine lJ (fun (i:Nat)=>(i<=Z.ns.length)) (fun (i:Nat)=>Z.ns.length - i) (fun (i:Nat)=>[(1,vP b2),(3,vI ↑(cK Z.ns i)),(4,vI ↑i)]) (fun (i:Nat)=>[.abs R,.blk b2 (rV Z Y) 42]) 0 [0,1] (Nat.zero_le _) ?_
 rintro i hi
 have Vt:=hB.ns
 have hbd:=hB.dat
 have hdt:=Et (ns:=Z.ns) (i:=i) hi
 refine af.seq (SR (jK 6 [10] [(3,a_ 1 b2)] ?_))
 refine NN (cP ((((i:Nat):Int):Int) < (((Z.ns.length:Nat):Int):Int)) (fun h10=>?_) (fun h10=>?_))
 ·refine af.skip (NX (af.seq (af.block (af.region ?_))))
  refine jK 11 [3] [(3,a_ 1 b2),(5,x_ i Z.ns.length (aB.hd hR.n (i:=i) (by omega))),(7,r_ (aB.rd hR.n (i:=i) (by omega) (j:=7) rfl)),(9,p_ ⟨[],none,none,none,some (vI ↑(cK Z.ns (i+1)))⟩ [(Value.int .i64 (IntKind.wrap .i64 ((((cK Z.ns i):Nat):Int)+(((nd Z.ns i).data.length:Nat):Int))))=(.int .i64 ↑(cK Z.ns (i+1)))] ⟨xG (Int.natCast_add _ _).symm (by omega) (by grind [Et]),trivial⟩)] ?_
  refine NL (ai.ax (NX (af.region ?_)))
  refine jK 3 [4] [(1,wJ ((i:Int)+1) (↑(i+1)))] ?_
  refine NL ?_
  exact tJ ((i+1)) [0,1] (by omega)
 refine af.exit (ai.aC (ai.aC (ai.aW (NX (SR ?_)))))
 refine jK 2 [2] [] ?_
 refine NN (af.ret ?_)
 exact RT (vI ↑(cK Z.ns i)) [0] (⟨by rw [show i=Z.ns.length by omega],rfl⟩)
theorem JU {β:Bs} (Z:RS) (Y:RL) (hR:cD β Z Y) (hB:RB Z) :
    Spec Tryz.prog β 74 #[.agg ⟨rV Z Y⟩] [] (fun v l=>v=vI ((bJ Z.ns Z.ns.length:Nat):Int)/\l=[]):=by
 refine SE Tryz.func74 Tryz.ntmps74 (fun R=>?_)
 refine SR (jN 2 [1] (fun _=>[]) (fun _=>[]) (fun b3=>.blk b3 (rV Z Y) 42) (fun b3=>?_))
 refine NS (jK 1 [3] [] ?_)
 refine NN (af.seq (SR (jK 1 [4] [] ?_)))
 refine NN (af.block ?_)
 refine lJ (fun (i:Nat)=>(i<=Z.ns.length)) (fun (i:Nat)=>Z.ns.length - i) (fun (i:Nat)=>[(1,vP b3),(3,vI ↑(bJ Z.ns i)),(4,vI ↑i)]) (fun (i:Nat)=>[.abs R,.blk b3 (rV Z Y) 42]) 0 [0,1] (Nat.zero_le _) ?_
 rintro i hi
 have Vt:=hB.ns
 have hbe:=hB.ah
 have hmo:=mH (ns:=Z.ns) hi
 refine af.seq (SR (jK 6 [10] [(3,a_ 1 b3)] ?_))
 refine NN (cP ((((i:Nat):Int):Int) < (((Z.ns.length:Nat):Int):Int)) (fun h10=>?_) (fun h10=>?_))
 ·refine af.skip (NX (af.seq (af.block (af.region ?_))))
  refine jK 11 [3] [(3,a_ 1 b3),(5,x_ i Z.ns.length (aB.hd hR.n (i:=i) (by omega))),(7,r_ (aB.rd hR.n (i:=i) (by omega) (j:=9) rfl)),(9,p_ ⟨[],none,none,none,some (vI ↑(bJ Z.ns (i+1)))⟩ [(Value.int .i64 (IntKind.wrap .i64 ((((bJ Z.ns i):Nat):Int)+(((nd Z.ns i).ah.length:Nat):Int))))=(.int .i64 ↑(bJ Z.ns (i+1)))] ⟨xG (Int.natCast_add _ _).symm (by omega) (by have:=mH (ns:=Z.ns) (show i+1<=Z.ns.length by omega);have:=hB.ah;omega),trivial⟩)] ?_
  refine NL (ai.ax (NX (af.region ?_)))
  refine jK 3 [4] [(1,wJ ((i:Int)+1) (↑(i+1)))] ?_
  refine NL ?_
  exact tJ ((i+1)) [0,1] (by omega)
 refine af.exit (ai.aC (ai.aC (ai.aW (NX (SR ?_)))))
 refine jK 2 [2] [] ?_
 refine NN (af.ret ?_)
 exact RT (vI ↑(bJ Z.ns i)) [0] (⟨by rw [show i=Z.ns.length by omega],rfl⟩)
theorem Qs {β:Bs} (Z:RS) (Y:RL) (hR:cD β Z Y) (hB:RB Z) (id:Int) :
    Spec Tryz.prog β 145 #[.agg ⟨rV Z Y⟩,vI (id)] [] (fun v l=>v=vI (qy Z.ns id)/\l=[]):=by
 refine SE Tryz.func145 Tryz.ntmps145 (fun R=>?_)
 refine SR (jN 2 [2] (fun _=>[]) (fun _=>[]) (fun b4=>.blk b4 (rV Z Y) 42) (fun b4=>?_))
 refine NS (jK 1 [5] [] ?_)
 refine NN (af.seq (SR (jK 1 [6] [] ?_)))
 refine NN (af.block ?_)
 refine lJ (fun (i:Nat)=>(i<=Z.ns.length)) (fun (i:Nat)=>Z.ns.length - i) (fun (i:Nat)=>[(1,vI (id)),(2,vP b4),(5,vI ↑(jV Z.ns id i)),(6,vI ↑i)]) (fun (i:Nat)=>[.abs R,.blk b4 (rV Z Y) 42]) 0 [0,1] (Nat.zero_le _) ?_
 rintro i hi
 have Vt:=hB.ns
 have hbe:=hB.ah
 have hcs:=N0 Z.ns id i
 have hmo:=mH (ns:=Z.ns) hi
 refine af.seq (SR (jK 6 [13] [(3,a_ 1 b4)] ?_))
 refine NN (cP ((((i:Nat):Int):Int) < (((Z.ns.length:Nat):Int):Int)) (fun qf=>?_) (fun qf=>?_))
 ·refine af.skip (NX (af.seq (af.block (SR ?_))))
  refine jK 1 [7] [] ?_
  refine NN (af.block ?_)
  refine lJ (fun (j:Nat)=>(j<=(nd Z.ns i).ah.length)) (fun (j:Nat)=>(nd Z.ns i).ah.length - j) (fun (j:Nat)=>[(1,vI (id)),(2,vP b4),(5,vI ↑(jV Z.ns id i+fq (nd Z.ns i).ah id j)),(6,vI ↑i),(7,vI ↑j)]) (fun (j:Nat)=>[.abs R,.blk b4 (rV Z Y) 42]) 0 [0,1] (Nat.zero_le _) ?_
  rintro j hj
  have hrl:=GK (nd Z.ns i).ah id j
  have hrw:=hB.row (i:=i) (by omega)
  refine af.seq (SR (jK 10 [25] [(3,a_ 1 b4),(5,x_ i Z.ns.length (aB.hd hR.n (i:=i) (by omega))),(7,r_ (aB.rd hR.n (i:=i) (by omega) (j:=9) rfl))] ?_))
  refine NN (cP ((((j:Nat):Int):Int) < ((((nd Z.ns i).ah.length:Nat):Int):Int)) (fun oH=>?_) (fun oH=>?_))
  ·refine af.skip (NX (af.seq (af.block (SR ?_))))
   refine jK 13 [40] [(2,a_ 1 b4),(4,x_ i Z.ns.length (aB.hd hR.n (i:=i) (by omega))),(6,r_ (aB.rd hR.n (i:=i) (by omega) (j:=9) rfl)),(8,x_ j ((nd Z.ns i).ah.length) (bg.hd (hR.n.ah i (by omega)) (i:=j) (by omega))),(10,r_ (bg.rd (hR.n.ah i (by omega)) (i:=j) (by omega) (j:=1) rfl))] ?_
   refine NN (cP (((en (nd Z.ns i).ah j).id:Int)=(id:Int)) (fun qz=>?_) (fun qz=>?_))
   ·refine af.region (jK 3 [5] [(1,wJ (((jV Z.ns id i+fq (nd Z.ns i).ah id j:Nat):Int)+1) (↑((jV Z.ns id i+fq (nd Z.ns i).ah id j)+1)))] ?_)
    refine NL (ai.ax (NX (af.region ?_)))
    refine sl 5 (.int .i64 ↑((jV Z.ns id i+fq (nd Z.ns i).ah id j)+1)) (.int .i64 ↑(jV Z.ns id i+fq (nd Z.ns i).ah id (j+1))) (by rw [← En qz,Nat.add_assoc]) ?_
    refine jK 3 [7] [(1,wJ ((j:Int)+1) (↑(j+1)))] ?_
    refine NL ?_
    exact tJ ((j+1)) [0,1] ((by omega))
   refine af.skip (ai.ax (NX (af.region ?_)))
   refine sl 5 (.int .i64 ↑(jV Z.ns id i+fq (nd Z.ns i).ah id j)) (.int .i64 ↑(jV Z.ns id i+fq (nd Z.ns i).ah id (j+1))) (by rw [← Cu qz]) ?_
   refine jK 3 [7] [(1,wJ ((j:Int)+1) (↑(j+1)))] ?_
   refine NL ?_
   exact tJ ((j+1)) [0,1] ((by omega))
  refine af.exit (ai.aC (ai.aC (ai.aW (ai.ax (NX (af.region ?_))))))
  refine sl 5 (.int .i64 ↑(jV Z.ns id i+fq (nd Z.ns i).ah id j)) (.int .i64 ↑(jV Z.ns id (i+1))) (by grind [jV,nd]) ?_
  refine jK 3 [6] [(1,wJ ((i:Int)+1) (↑(i+1)))] ?_
  refine NL ?_
  exact tJ ((i+1)) [0,1] ((by omega))
 refine af.exit (ai.aC (ai.aC (ai.aW (NX (SR ?_)))))
 refine jK 2 [4] [] ?_
 refine NN (af.ret ?_)
 exact RT (vI ↑(jV Z.ns id i)) [0] (⟨by rw [show i=Z.ns.length by omega];rfl,rfl⟩)
theorem iU {β:Bs} (Z:RS) (Y:RL) (hR:cD β Z Y) (hB:RC Z) (d:Nat) (hd:d < Z.ns.length) (name:ByteArray) :
    Spec Tryz.prog β 69 #[.agg ⟨rV Z Y⟩,vI (((d:Nat):Int)),.string name] [] (fun v l=>v=vI (bn Z.ns d name)/\l=[]):=by
 refine SE Tryz.func69 Tryz.ntmps69 (fun R=>?_)
 refine SR (jN 2 [3] (fun _=>[]) (fun _=>[]) (fun b5=>.blk b5 (rV Z Y) 42) (fun b5=>?_))
 refine NN (af.seq (SR (jK 1 [7] [] ?_)))
 refine NN (af.block ?_)
 refine lJ (fun (j:Nat)=>(j<=(nd Z.ns d).ah.length)/\(∀ q,q < j->¬ (en (nd Z.ns d).ah q).name=name)) (fun (j:Nat)=>(nd Z.ns d).ah.length - j) (fun (j:Nat)=>[(1,vI ↑d),(2,.string name),(3,vP b5),(7,vI ↑j)]) (fun (j:Nat)=>[.abs R,.blk b5 (rV Z Y) 42]) 0 [0,1] (⟨Nat.zero_le _,fun q hq=>absurd hq (Nat.not_lt_zero q)⟩) ?_
 rintro j ⟨hj,hno⟩
 have hrw:=hB.toRB.row hd
 refine af.seq (SR (jK 10 [17] [(3,a_ 1 b5),(5,x_ d Z.ns.length (aB.hd hR.n (i:=d) (by omega))),(7,r_ (aB.rd hR.n (i:=d) (by omega) (j:=9) rfl))] ?_))
 refine NN (cP ((((j:Nat):Int):Int) < ((((nd Z.ns d).ah.length:Nat):Int):Int)) (fun DS=>?_) (fun DS=>?_))
 ·refine af.skip (NX (af.seq (af.block (SR ?_))))
  refine jK 13 [32] [(2,a_ 1 b5),(4,x_ d Z.ns.length (aB.hd hR.n (i:=d) (by omega))),(6,r_ (aB.rd hR.n (i:=d) (by omega) (j:=9) rfl)),(8,x_ j ((nd Z.ns d).ah.length) (bg.hd (hR.n.ah d (by omega)) (i:=j) (by omega))),(10,r_ (bg.rd (hR.n.ah d (by omega)) (i:=j) (by omega) (j:=0) rfl)),(12,w_ (.bool (decide (((en (nd Z.ns d).ah j).name:ByteArray)=name))) (mX _ _))] ?_
  refine NN (cP (((en (nd Z.ns d).ah j).name:ByteArray)=name) (fun oY=>?_) (fun oY=>?_))
  ·refine af.seq (jM [0,1,2,3,4,5,6,7,8,9,10,11,12,513,514] [1] ?_)
   refine jG 13 [34,45] [(1,a_ 0 b5),(4,a_ 0 b5),(6,x_ d Z.ns.length (aB.hd hR.n (i:=d) (by omega))),(8,r_ (aB.rd hR.n (i:=d) (by omega) (j:=9) rfl)),(10,x_ j ((nd Z.ns d).ah.length) (bg.hd (hR.n.ah d (by omega)) (i:=j) (by omega))),(12,r_ (bg.rd (hR.n.ah d (by omega)) (i:=j) (by omega) (j:=1) rfl))] ?_
   refine kL [1] [] (DV Y.A Y.c Z.ns Y.L hR.n hB.rise (by have:=hB.ns;omega) (en (nd Z.ns d).ah j).id) ?_ (by rintro _ _ ⟨rfl,rfl⟩;kernel_rfl)
   rintro _ _ ⟨rfl,rfl⟩
   refine bZ.last (by kernel_rfl) ?_
   refine jK 1 [6] [] ?_
   refine NL (ai.np (NX (af.ret (ai.au (ai.aj (ai.aj (ai.au (ai.aj ?_))))))))
   exact RT _ [0] (⟨congrArg (Value.int .i64) (Qp (by omega) oY hno),rfl⟩)
  refine af.skip (ai.ax (NX (af.region ?_)))
  refine jK 3 [7] [(1,wJ ((j:Int)+1) (↑(j+1)))] ?_
  refine NL ?_
  exact tJ ((j+1)) [0,1] (⟨by omega,fun q hq=>by grind⟩)
 refine af.exit (ai.aC (ai.aC (ai.aW (NX (SR ?_)))))
 refine jK 1 [6] [] ?_
 refine NN (af.ret ?_)
 exact RT _ [0] (⟨congrArg (Value.int .i64) (N9 (fun q hq=>hno q (by omega))),rfl⟩)
end
section
open Go.RowKit Go.Maps aX aq
attribute [local irreducible] ak aU af ai aY
noncomputable abbrev tW (b1)(M)(p)(A)(us:List (Int×Int)) (c) (B) (d):=(.blk b1 [vI (M),vI (p),.slice A (us.length) (c),.slice B (us.length) (d)] 40:HP)
noncomputable abbrev Eu (b5):=(.blk b5 [vI 0,vI 0,.slice none (0) (0),.slice none (0) (0)] 40:HP)
noncomputable abbrev Qt (Av)(q:List (Int×Int)) (cv):=(.abs (ay 3 1 Av q.length cv (ints (gn q))):HP)
noncomputable abbrev Mz (b13)(us:List (Int×Int)) (i):=(.blk b13 [vI (((keys us).getD i 0))] 3:HP)
noncomputable abbrev Vu (ju)(q:List (Int×Int)) (us:List (Int×Int)) (i) (jv):=(.abs (ay 3 1 ju ((q++[(pr us i)]).length) jv (ints (keys (q++[(pr us i)])))):HP)
noncomputable abbrev Ye (b6)(M)(p)(ju)(q:List (Int×Int)) (us:List (Int×Int)) (i) (jv) (Av) (cv) (o7) (o8) (b5) (R) (b19) (iK):=([.blk b6 [vI (M),vI (p),.slice ju ((q++[(pr us i)]).length) (jv),.slice Av (q.length) (cv)] 40,Vu ju q us i jv,.abs (ay 3 1 o7 ((q++[(pr us i)]).length) o8 (ints (gn (q++[(pr us i)])))),Eu b5,.abs R,Mz b19 us i,.blk iK [vI (((gn us).getD i 0))] 3]:List HP)
noncomputable abbrev MB (x)(b4)(b5)(us:List (Int×Int)) (b6):=([(1,vI (x)),(2,vP b4),(4,vP b5),(7,vI (aq.least us)),(8,vP b6)]:Fr)
noncomputable abbrev Vv (M)(p)(A)(us:List (Int×Int)) (c) (B) (d):=([(0,vI (M)),(1,vI (p)),(2,.slice A (us.length) (c)),(3,.slice B (us.length) (d))]:Fr)
noncomputable abbrev Yf (b4)(b5):=([(2,vP b4),(4,vP b5)]:Fr)
theorem GV (l:List Int) (x:Int):ints l++[vI x]=ints (l++[x]):=by simp [ints]
theorem kH (q:Used Int) (x:Int×Int):(q++[x]).length=q.length+1:=List.length_append
theorem FK {q:Used Int} {x:Int×Int} {B:Option Addr} {c:Nat} {k:Int} (h:k=x.1):HP.abs (ay 3 1 B (q.length+1) c (ints (keys q)++[vI k]))=HP.abs (ay 3 1 B (q++[x]).length c (ints (keys (q++[x])))):=by
  rw [GJ,← GV,kH,h]
theorem FL {q:Used Int} {x:Int×Int} {B:Option Addr} {c:Nat} {k:Int} (h:k=x.2):HP.abs (ay 3 1 B (q.length+1) c (ints (gn q)++[vI k]))=HP.abs (ay 3 1 B (q++[x]).length c (ints (gn (q++[x])))):=by
  rw [TN,← GV,kH,h]
theorem iX.keep {us q:Used Int} {h v:Int} {i:Nat} {d:Bool} (hp:iX us h v i d q) (hi:i < us.length) (hk:¬ h < (pr us i).1):iX us h v (i+1) d (q++[pr us i]):=by
  cases d with
  | false=>exact hp.miss hi hk
  | true=>exact hp.more hi
theorem AV {β:Bs} (M p:Int) (A B:Option Addr) (c d:Nat) (us:Used Int) (hA:bT β A (ints (keys us))) (hl:us.length<=16777216) (h:Int) :
    Spec Tryz.prog β 108 #[.agg #[vI (M),vI (p),.slice A (us.length) (c),.slice B (us.length) (d)],vI h] [] (fun v l=>v=vI (qx (keys us) h)/\l=[]):=by
 refine SE Tryz.func108 Tryz.ntmps108 (fun R=>?_)
 refine SR (jN 2 [2] (fun _=>[]) (fun _=>[]) (fun b1=>.blk b1 [vI (M),vI (p),.slice A (us.length) (c),.slice B (us.length) (d)] 40) (fun b1=>?_))
 refine NN (af.seq (SR (jK 1 [5] [] ?_)))
 refine NN (af.block ?_)
 refine lJ (fun (i:Nat)=>(i<=us.length)/\(∀ j,j < i->¬ (keys us).getD j 0=h)) (fun (i:Nat)=>us.length - i) (fun (i:Nat)=>[(1,vI (h)),(2,vP b1),(5,vI ↑i)]) (fun (i:Nat)=>[.abs R,tW b1 M p A us c B d]) 0 [0,1] (⟨Nat.zero_le _,fun j hj=>absurd hj (Nat.not_lt_zero j)⟩) ?_
 rintro i ⟨hi,hno⟩
 refine af.seq (SR (jK 5 [10] [(2,a_ 1 b1)] ?_))
 refine NN (cP ((((i:Nat):Int):Int) < (((us.length:Nat):Int):Int)) (fun h10=>?_) (fun h10=>?_))
 ·refine af.skip (NX (af.seq (af.block (SR ?_))))
  refine jK 7 [19] [(1,a_ 1 b1),(3,x_ i us.length (iW.hd hA (j:=i) (by rw [gD];omega))),(4,r_ (iW.rd hA (j:=i) (by rw [gD];omega)))] ?_
  refine NN (cP ((((keys us).getD i 0):Int)=(h:Int)) (fun Gy=>?_) (fun Gy=>?_))
  ·refine SR (jK 2 [4] [] ?_)
   refine NN (af.ret (ai.au (ai.aj (ai.aj (ai.au (ai.aj ?_))))))
   exact RT (vI ↑i) [0] (⟨by grind [Qn,gD],rfl⟩)
  refine af.skip (ai.ax (NX (af.region ?_)))
  refine jK 3 [5] [(1,wJ ((i:Int)+1) (↑(i+1)))] ?_
  refine NL ?_
  exact tJ ((i+1)) [0,1] (⟨by omega,fun j hj=>(Nat.lt_succ_iff_lt_or_eq.1 hj).elim (hno j) (fun e=>e ▸ Gy)⟩)
 refine af.exit (ai.aC (ai.aC (ai.aW (NX (SR ?_)))))
 refine jK 1 [4] [] ?_
 refine NN (af.ret ?_)
 exact RT (vI (-1)) [0] (⟨by grind [JM,gD],rfl⟩)
theorem TU {β:Bs} (M p:Int) (A B:Option Addr) (c d:Nat) (us:Used Int) (x:Int) (hf:M<=(us.length:Int)) :
    Spec Tryz.prog β 110 #[.agg #[vI (M),vI (p),.slice A (us.length) (c),.slice B (us.length) (d)],vI x] [] (fun v l=>v=.tuple #[.agg #[vI (M),vI (p),.slice A (us.length) (c),.slice B (us.length) (d)],vI 0,vI 130]/\l=[]):=by
 refine SE Tryz.func110 Tryz.ntmps110 (fun R=>?_)
 refine SR (jN 1 [2] (fun _=>[]) (fun _=>[]) (fun b2=>.blk b2 [vI (M),vI (p),.slice A (us.length) (c),.slice B (us.length) (d)] 40) (fun b2=>?_))
 refine jN 3 [4] (fun _=>[]) (fun _=>[]) (fun b3=>.blk b3 [vI 0,vI 0,.slice none (0) (0),.slice none (0) (0)] 40) (fun b3=>?_)
 refine NN (af.seq (SR (jK 6 [16] [(1,a_ 1 b2),(4,a_ 1 b2)] ?_)))
 refine NN (cP ((((us.length:Nat):Int):Int) ≥ (M:Int)) (fun oy=>?_) (fun oy=>?_))
 ·refine SR (jC 4 [5,6] [(0,A_ 1 b2 4),(1,A_ 2 b3 4)] [(2,(Vv M p A us c B d))] ?_)
  refine NN (af.ret (ai.aj ?_))
  exact rT _ [A_ 2 b3 4] [0] (⟨rfl,rfl⟩)
 exact absurd oy (by omega)
theorem WU {β:Bs} (M p:Int) (A B:Option Addr) (c d:Nat) (us:Used Int) (hA:bT β A (ints (keys us))) (hB:bT β B (ints (gn us))) (hl:us.length<=16777216) (hr:aq.bH (keys us)) (hp:∀ z∈keys us,1<=z) (x:Int) (hf:(us.length:Int) < M) :
    Spec Tryz.prog β 110 #[.agg #[vI (M),vI (p),.slice A (us.length) (c),.slice B (us.length) (d)],vI x] [] (fun v l=>∃ A' c' B' d',v=.tuple #[.agg #[vI (M),vI (max p ((us.length:Int)+1)),.slice A' (ins (aq.least us) x us).length c',.slice B' (ins (aq.least us) x us).length d'],vI (aq.least us),vI 0]/\l=[.abs (ay 3 1 A' (ins (aq.least us) x us).length c' (ints (keys (ins (aq.least us) x us)))),.abs (ay 3 1 B' (ins (aq.least us) x us).length d' (ints (gn (ins (aq.least us) x us))))]):=by
 have hls:=N7 hr hp
 have hle:=least_le us
 refine SE Tryz.func110 Tryz.ntmps110 (fun R=>?_)
 refine SR (jN 1 [2] (fun _=>[]) (fun _=>[]) (fun b4=>.blk b4 [vI (M),vI (p),.slice A (us.length) (c),.slice B (us.length) (d)] 40) (fun b4=>?_))
 refine jN 3 [4] (fun _=>[]) (fun _=>[]) (fun b5=>.blk b5 [vI 0,vI 0,.slice none (0) (0),.slice none (0) (0)] 40) (fun b5=>?_)
 refine NN (af.seq (SR (jK 6 [16] [(1,a_ 1 b4),(4,a_ 1 b4)] ?_)))
 refine NN (cP ((((us.length:Nat):Int):Int) ≥ (M:Int)) (fun oy=>?_) (fun oy=>?_))
 ·exact absurd oy (by omega)
 refine af.skip (NX (SR (jK 1 [7] [] ?_)))
 refine NN (af.seq (af.block ?_))
 refine lJ (fun (g:Int)=>(1<=g)/\(g<=aq.least us)) (fun (g:Int)=>(aq.least us+1 - g).toNat) (fun (g:Int)=>([(1,vI (x))]++Yf b4 b5++[(7,vI (g))])) (fun (g:Int)=>[.abs R,tW b4 M p A us c B d,Eu b5]) 1 [0,1,2] (⟨by omega,hls.1⟩) ?_
 rintro g ⟨hg1,hg2⟩
 refine af.seq (SR (jK 2 [18,19] [(0,A_ 1 b4 4)] ?_))
 refine gL [] (AV M p A B c d us hA hl g) ?_
 rintro _ _ ⟨rfl,rfl⟩
 refine jK 1 [21] [] ?_
 refine NN (cP (((qx (keys us) g):Int) ≥ (0:Int)) (fun oA=>?_) (fun oA=>?_))
 ·refine af.skip (NX (af.block (af.region ?_)))
  refine jK 3 [7] [(1,wJ (g+1) (g+1))] ?_
  refine NL (ai.ax ?_)
  exact tJ ((g+1)) [0,1,2] (⟨by omega,by grind [keys,Mx]⟩)
 refine af.exit (ai.aC (ai.aC (ai.aW (NX (SR ?_)))))
 refine sl 7 (.int .i64 (g)) (.int .i64 ((aq.least us))) (Va (by rcases Int.lt_or_le g (aq.least us) with h0|h0;exact absurd (Mx.2 (hls.2.2 g (by omega) h0)) oA;omega)) ?_
 refine jN 7 [8] (fun b6=>[(1,a_ 1 b4),(3,a_ 1 b4),(6,A_ 3 b6 4)]) (fun _=>[]) (fun b6=>.blk b6 [vI (M),vI (p),.slice none (0) (0),.slice none (0) (0)] 40) (fun b6=>?_)
 refine NS (ak.mem (fun w hS=>(hS.kX (e:=3) (size:=1)).kX (e:=3) (size:=1)) ?_)
 refine jK 1 [9] [] ?_
 refine NN (af.seq (SR (jK 1 [10] [] ?_)))
 refine NN (af.block ?_)
 refine lJ (fun (i,dn,q,Ah,ch,Av,cv)=>(i<=us.length)/\(iX us (aq.least us) x i dn q)) (fun (i,dn,q,Ah,ch,Av,cv)=>us.length - i) (fun (i,dn,q,Ah,ch,Av,cv)=>([(1,vI (x))]++Yf b4 b5++[(7,vI ((aq.least us))),(8,vP b6),(9,.bool dn),(10,vI ↑i)])) (fun (i,dn,q,Ah,ch,Av,cv)=>[tW b4 M p A us c B d,tW b6 M p Ah q ch Av cv,.abs (ay 3 1 Ah q.length ch (ints (keys q))),Qt Av q cv,Eu b5,.abs R]) (0,false,[],none,0,none,0) [1,3,4,5,2,0] (⟨Nat.zero_le _,iX.zero⟩) ?_
 rintro⟨i,dn,q,Ah,ch,Av,cv⟩ ⟨hi,hpt⟩
 refine af.seq (SR (jK 5 [33] [(2,a_ 0 b4)] ?_))
 refine NN (cP ((((i:Nat):Int):Int) < (((us.length:Nat):Int):Int)) (fun Gx=>?_) (fun Gx=>?_))
 ·refine af.skip (NX (af.seq (af.block (af.seq (SR ?_)))))
  have hpi:=uV (us:=us) (i:=i) (by omega)
  have GW:q.length<=i+1:=by have:=hpt.len;cases dn<;>simp at this<;>omega
  refine jK 8 [43] [(1,a_ 0 b4),(3,x_ i us.length (iW.hd hA (j:=i) (by rw [gD];omega))),(4,r_ (iW.rd hA (j:=i) (by rw [gD];omega)))] ?_
  refine sP 43 ((((keys us).getD i 0):Int) > ((aq.least us):Int)) (fun Em=>?_) (fun Em=>?_)
  ·refine jK 3 [46] [] ?_
   refine NN (af.cond (b:=(!dn)) (fun _=>by kernel_rfl) (fun h46=>?_) (fun h46=>?_))
   ·refine SR (jN 4 [48,50] (fun b7=>[(1,a_ 1 b6)]) (fun _=>[]) (fun b7=>.blk b7 [vI ((aq.least us))] 3) (fun b7=>?_))
    refine jZ 2 38 (some ⟨b7,0,none⟩) 1 1 [vI ((aq.least us))] rfl (dV (j:=6) rfl) (fun A8 c9=>?_) (hb:=by grind)
    refine ak.bM 2 rfl (FK (x:=(aq.least us,x)) rfl) ?_
    refine sl 51 (.slice A8 (q.length+1) (c9)) (.slice A8 ((q++[(aq.least us,x)]).length) (c9)) (by rw [kH q (aq.least us,x)]) ?_
    refine jC 2 [] [(1,a_ 1 b6)] [(1,[(2,.slice A8 ((q++[(aq.least us,x)]).length) (c9))])] ?_
    refine NS (jN 4 [54,56] (fun b10=>[(1,a_ 1 b6)]) (fun _=>[]) (fun b10=>.blk b10 [vI (x)] 3) (fun b10=>?_))
    refine jZ 3 38 (some ⟨b10,0,none⟩) 1 1 [vI (x)] rfl (dV (j:=7) rfl) (fun Cv zo=>?_) (hb:=by grind)
    refine ak.bM 3 rfl (FL (x:=(aq.least us,x)) rfl) ?_
    refine sl 57 (.slice Cv (q.length+1) (zo)) (.slice Cv ((q++[(aq.least us,x)]).length) (zo)) (by rw [kH q (aq.least us,x)]) ?_
    refine jC 2 [] [(1,a_ 1 b6)] [(1,[(3,.slice Cv ((q++[(aq.least us,x)]).length) (zo))])] ?_
    refine NN (af.region (jK 1 [9] [] ?_))
    refine NN (af.seq (rM (List.range 11) 7 [0,1,4,5,6,7] ?_))
    refine jR 7 [1,2,4,7,8,9,10,60,65] [(1,a_ 1 b6),(3,a_ 0 b4),(5,x_ i us.length (iW.hd hA (j:=i) (by rw [gD];omega))),(6,r_ (iW.rd hA (j:=i) (by rw [gD];omega)))] ?_
    refine mN [0,1,4,5,6,7] (fun b13=>[(66,.slice (some ⟨b13,0,none⟩) (1) (1))]) (fun _=>[]) (fun b13=>.blk b13 [vI (((keys us).getD i 0))] 3) (fun b13=>?_)
    refine aY.cut (ι:=(Option Addr)×Nat) (fr':=fun ((zq,wL):(Option Addr)×Nat)=>(MB x b4 b5 us b6++[(9,.bool true),(10,vI ↑i),(67,.slice zq (((q++[(aq.least us,x)])++[(pr us i)]).length) (wL))])) (hp':=fun ((zq,wL):(Option Addr)×Nat)=>[tW b4 M p A us c B d,.blk b6 [vI (M),vI (p),.slice A8 ((q++[(aq.least us,x)]).length) (c9),.slice Cv ((q++[(aq.least us,x)]).length) (zo)] 40,.abs (ay 3 1 zq (((q++[(aq.least us,x)])++[(pr us i)]).length) wL (ints (keys ((q++[(aq.least us,x)])++[(pr us i)])))),.abs (ay 3 1 Cv ((q++[(aq.least us,x)]).length) zo (ints (gn (q++[(aq.least us,x)])))),Eu b5,.abs R,.blk b7 [vI ((aq.least us))] 3,.blk b10 [vI (x)] 3,Mz b13 us i]) [0,1,4,5,6,7] rfl rfl ?_ rfl (fun _=>by kernel_rfl) ?_
    ·refine jZ 2 38 (some ⟨b13,0,none⟩) 1 1 [vI (((keys us).getD i 0))] rfl (dV (j:=8) rfl) (fun zq wL=>?_) (hb:=by grind)
     refine ak.bM 2 rfl (FK (x:=(pr us i)) hpi.1) ?_
     refine sl 67 (.slice zq (((q++[(aq.least us,x)]).length)+1) (wL)) (.slice zq (((q++[(aq.least us,x)])++[(pr us i)]).length) (wL)) (by grind) ?_
     refine NL ?_
     exact MD (zq,wL) [1,2,4,7,8,9,10,67] [0,1,2,3,4,5,6,7,8]
    rintro⟨zq,wL⟩
    refine nC [0,1,4,5,6,7] [68] [] [] ?_
    refine aY.last rfl rfl ?_
    refine jC 1 [] [(0,a_ 1 b6)] [(1,[(2,.slice zq (((q++[(aq.least us,x)])++[(pr us i)]).length) (wL))])] ?_
    refine NL (ai.np (NX ?_))
    refine rM (List.range 11) 7 [0,1,4,5,6,7,8] ?_
    refine jR 7 [1,2,4,7,8,9,10,70,75] [(1,a_ 1 b6),(3,a_ 0 b4),(5,x_ i us.length (iW.hd hB (j:=i) (by rw [jo];omega))),(6,r_ (iW.rd hB (j:=i) (by rw [jo];omega)))] ?_
    refine mN [0,1,4,5,6,7,8] (fun b16=>[(76,.slice (some ⟨b16,0,none⟩) (1) (1))]) (fun _=>[]) (fun b16=>.blk b16 [vI (((gn us).getD i 0))] 3) (fun b16=>?_)
    refine aY.cut (ι:=(Option Addr)×Nat) (fr':=fun ((kK,lP):(Option Addr)×Nat)=>(MB x b4 b5 us b6++[(9,.bool true),(10,vI ↑i),(77,.slice kK (((q++[(aq.least us,x)])++[(pr us i)]).length) (lP))])) (hp':=fun ((kK,lP):(Option Addr)×Nat)=>[tW b4 M p A us c B d,.blk b6 [vI (M),vI (p),.slice zq (((q++[(aq.least us,x)])++[(pr us i)]).length) (wL),.slice Cv ((q++[(aq.least us,x)]).length) (zo)] 40,.abs (ay 3 1 zq (((q++[(aq.least us,x)])++[(pr us i)]).length) wL (ints (keys ((q++[(aq.least us,x)])++[(pr us i)])))),.abs (ay 3 1 kK (((q++[(aq.least us,x)])++[(pr us i)]).length) lP (ints (gn ((q++[(aq.least us,x)])++[(pr us i)])))),Eu b5,.abs R,.blk b7 [vI ((aq.least us))] 3,.blk b10 [vI (x)] 3,Mz b13 us i,.blk b16 [vI (((gn us).getD i 0))] 3]) [0,1,4,5,6,7,8] rfl rfl ?_ rfl (fun _=>by kernel_rfl) ?_
    ·refine jZ 3 38 (some ⟨b16,0,none⟩) 1 1 [vI (((gn us).getD i 0))] rfl (dV (j:=9) rfl) (fun kK lP=>?_) (hb:=by grind)
     refine ak.bM 3 rfl (FL (x:=(pr us i)) hpi.2) ?_
     refine sl 77 (.slice kK (((q++[(aq.least us,x)]).length)+1) (lP)) (.slice kK (((q++[(aq.least us,x)])++[(pr us i)]).length) (lP)) (by grind) ?_
     refine NL ?_
     exact MD (kK,lP) [1,2,4,7,8,9,10,77] [0,1,2,3,4,5,6,7,8,9]
    rintro⟨kK,lP⟩
    refine nC [0,1,4,5,6,7,8] [78] [] [] ?_
    refine aY.last rfl rfl ?_
    refine jC 1 [] [(0,a_ 1 b6)] [(1,[(3,.slice kK (((q++[(aq.least us,x)])++[(pr us i)]).length) (lP))])] ?_
    refine NL (ai.np (ai.ax (NX (af.region ?_))))
    refine jK 3 [10] [(1,wJ ((i:Int)+1) (↑(i+1)))] ?_
    refine NL ?_
    exact tJ ((i+1),true,((q++[(aq.least us,x)])++[(pr us i)]),zq,wL,kK,lP) [0,1,2,3,4,5] (⟨by omega,iX.hit ((show dn=false by simpa using h46) ▸ hpt) (by omega) (by rw [← hpi.1];omega)⟩)
   refine af.skip (NX (af.seq (rM (List.range 11) 7 [0,1,4,5] ?_)))
   refine jR 7 [1,2,4,7,8,9,10,60,65] [(1,a_ 1 b6),(3,a_ 0 b4),(5,x_ i us.length (iW.hd hA (j:=i) (by rw [gD];omega))),(6,r_ (iW.rd hA (j:=i) (by rw [gD];omega)))] ?_
   refine mN [0,1,4,5] (fun b19=>[(66,.slice (some ⟨b19,0,none⟩) (1) (1))]) (fun _=>[]) (fun b19=>.blk b19 [vI (((keys us).getD i 0))] 3) (fun b19=>?_)
   refine aY.cut (ι:=(Option Addr)×Nat) (fr':=fun ((ju,jv):(Option Addr)×Nat)=>(MB x b4 b5 us b6++[(9,.bool dn),(10,vI ↑i),(67,.slice ju ((q++[(pr us i)]).length) (jv))])) (hp':=fun ((ju,jv):(Option Addr)×Nat)=>[tW b4 M p A us c B d,tW b6 M p Ah q ch Av cv,Vu ju q us i jv,Qt Av q cv,Eu b5,.abs R,Mz b19 us i]) [0,1,4,5] rfl rfl ?_ rfl (fun _=>by kernel_rfl) ?_
   ·refine jZ 2 38 (some ⟨b19,0,none⟩) 1 1 [vI (((keys us).getD i 0))] rfl (dV (j:=6) rfl) (fun ju jv=>?_) (hb:=by grind)
    refine ak.bM 2 rfl (FK (x:=(pr us i)) hpi.1) ?_
    refine sl 67 (.slice ju (q.length+1) (jv)) (.slice ju ((q++[(pr us i)]).length) (jv)) (by rw [kH q (pr us i)]) ?_
    refine NL ?_
    exact MD (ju,jv) [1,2,4,7,8,9,10,67] [0,1,2,3,4,5,6]
   rintro⟨ju,jv⟩
   refine nC [0,1,4,5] [68] [] [] ?_
   refine aY.last rfl rfl ?_
   refine jC 1 [] [(0,a_ 1 b6)] [(1,[(2,.slice ju ((q++[(pr us i)]).length) (jv))])] ?_
   refine NL (ai.np (NX ?_))
   refine rM (List.range 11) 7 [0,1,4,5,6] ?_
   refine jR 7 [1,2,4,7,8,9,10,70,75] [(1,a_ 1 b6),(3,a_ 0 b4),(5,x_ i us.length (iW.hd hB (j:=i) (by rw [jo];omega))),(6,r_ (iW.rd hB (j:=i) (by rw [jo];omega)))] ?_
   refine mN [0,1,4,5,6] (fun iK=>[(76,.slice (some ⟨iK,0,none⟩) (1) (1))]) (fun _=>[]) (fun iK=>.blk iK [vI (((gn us).getD i 0))] 3) (fun iK=>?_)
   refine aY.cut (ι:=(Option Addr)×Nat) (fr':=fun ((o7,o8):(Option Addr)×Nat)=>(MB x b4 b5 us b6++[(9,.bool dn),(10,vI ↑i),(77,.slice o7 ((q++[(pr us i)]).length) (o8))])) (hp':=fun ((o7,o8):(Option Addr)×Nat)=>([tW b4 M p A us c B d]++Ye b6 M p ju q us i jv Av cv o7 o8 b5 R b19 iK)) [0,1,4,5,6] rfl rfl ?_ rfl (fun _=>by kernel_rfl) ?_
   ·refine jZ 3 38 (some ⟨iK,0,none⟩) 1 1 [vI (((gn us).getD i 0))] rfl (dV (j:=7) rfl) (fun o7 o8=>?_) (hb:=by grind)
    refine ak.bM 3 rfl (FL (x:=(pr us i)) hpi.2) ?_
    refine sl 77 (.slice o7 (q.length+1) (o8)) (.slice o7 ((q++[(pr us i)]).length) (o8)) (by rw [kH q (pr us i)]) ?_
    refine NL ?_
    exact MD (o7,o8) [1,2,4,7,8,9,10,77] [0,1,2,3,4,5,6,7]
   rintro⟨o7,o8⟩
   refine nC [0,1,4,5,6] [78] [] [] ?_
   refine aY.last rfl rfl ?_
   refine jC 1 [] [(0,a_ 1 b6)] [(1,[(3,.slice o7 ((q++[(pr us i)]).length) (o8))])] ?_
   refine NL (ai.np (ai.ax (NX (af.region ?_))))
   refine jK 3 [10] [(1,wJ ((i:Int)+1) (↑(i+1)))] ?_
   refine NL ?_
   exact tJ ((i+1),dn,(q++[(pr us i)]),ju,jv,o7,o8) [0,1,2,3,4,5] (⟨by omega,(show dn=true by simpa using h46) ▸ iX.more ((show dn=true by simpa using h46) ▸ hpt) (by omega)⟩)
  refine jK 3 [46] [] ?_
  refine NN (CF (af.skip (NX (af.seq (rM (List.range 11) 7 [0,1,4,5] ?_)))))
  refine jR 7 [1,2,4,7,8,9,10,60,65] [(1,a_ 1 b6),(3,a_ 0 b4),(5,x_ i us.length (iW.hd hA (j:=i) (by rw [gD];omega))),(6,r_ (iW.rd hA (j:=i) (by rw [gD];omega)))] ?_
  refine mN [0,1,4,5] (fun o9=>[(66,.slice (some ⟨o9,0,none⟩) (1) (1))]) (fun _=>[]) (fun o9=>.blk o9 [vI (((keys us).getD i 0))] 3) (fun o9=>?_)
  refine aY.cut (ι:=(Option Addr)×Nat) (fr':=fun ((mQ,mR):(Option Addr)×Nat)=>(MB x b4 b5 us b6++[(9,.bool dn),(10,vI ↑i),(67,.slice mQ ((q++[(pr us i)]).length) (mR))])) (hp':=fun ((mQ,mR):(Option Addr)×Nat)=>[tW b4 M p A us c B d,tW b6 M p Ah q ch Av cv,Vu mQ q us i mR,Qt Av q cv,Eu b5,.abs R,Mz o9 us i]) [0,1,4,5] rfl rfl ?_ rfl (fun _=>by kernel_rfl) ?_
  ·refine jZ 2 38 (some ⟨o9,0,none⟩) 1 1 [vI (((keys us).getD i 0))] rfl (dV (j:=6) rfl) (fun mQ mR=>?_) (hb:=by grind)
   refine ak.bM 2 rfl (FK (x:=(pr us i)) hpi.1) ?_
   refine sl 67 (.slice mQ (q.length+1) (mR)) (.slice mQ ((q++[(pr us i)]).length) (mR)) (by rw [kH q (pr us i)]) ?_
   refine NL ?_
   exact MD (mQ,mR) [1,2,4,7,8,9,10,67] [0,1,2,3,4,5,6]
  rintro⟨mQ,mR⟩
  refine nC [0,1,4,5] [68] [] [] ?_
  refine aY.last rfl rfl ?_
  refine jC 1 [] [(0,a_ 1 b6)] [(1,[(2,.slice mQ ((q++[(pr us i)]).length) (mR))])] ?_
  refine NL (ai.np (NX ?_))
  refine rM (List.range 11) 7 [0,1,4,5,6] ?_
  refine jR 7 [1,2,4,7,8,9,10,70,75] [(1,a_ 1 b6),(3,a_ 0 b4),(5,x_ i us.length (iW.hd hB (j:=i) (by rw [jo];omega))),(6,r_ (iW.rd hB (j:=i) (by rw [jo];omega)))] ?_
  refine mN [0,1,4,5,6] (fun fF=>[(76,.slice (some ⟨fF,0,none⟩) (1) (1))]) (fun _=>[]) (fun fF=>.blk fF [vI (((gn us).getD i 0))] 3) (fun fF=>?_)
  refine aY.cut (ι:=(Option Addr)×Nat) (fr':=fun ((vK,vL):(Option Addr)×Nat)=>(MB x b4 b5 us b6++[(9,.bool dn),(10,vI ↑i),(77,.slice vK ((q++[(pr us i)]).length) (vL))])) (hp':=fun ((vK,vL):(Option Addr)×Nat)=>([tW b4 M p A us c B d]++Ye b6 M p mQ q us i mR Av cv vK vL b5 R o9 fF)) [0,1,4,5,6] rfl rfl ?_ rfl (fun _=>by kernel_rfl) ?_
  ·refine jZ 3 38 (some ⟨fF,0,none⟩) 1 1 [vI (((gn us).getD i 0))] rfl (dV (j:=7) rfl) (fun vK vL=>?_) (hb:=by grind)
   refine ak.bM 3 rfl (FL (x:=(pr us i)) hpi.2) ?_
   refine sl 77 (.slice vK (q.length+1) (vL)) (.slice vK ((q++[(pr us i)]).length) (vL)) (by rw [kH q (pr us i)]) ?_
   refine NL ?_
   exact MD (vK,vL) [1,2,4,7,8,9,10,77] [0,1,2,3,4,5,6,7]
  rintro⟨vK,vL⟩
  refine nC [0,1,4,5,6] [78] [] [] ?_
  refine aY.last rfl rfl ?_
  refine jC 1 [] [(0,a_ 1 b6)] [(1,[(3,.slice vK ((q++[(pr us i)]).length) (vL))])] ?_
  refine NL (ai.np (ai.ax (NX (af.region ?_))))
  refine jK 3 [10] [(1,wJ ((i:Int)+1) (↑(i+1)))] ?_
  refine NL ?_
  exact tJ ((i+1),dn,(q++[(pr us i)]),mQ,mR,vK,vL) [0,1,2,3,4,5] (⟨by omega,hpt.keep (by omega) (by rw [← hpi.1];omega)⟩)
 refine af.exit (ai.aC (ai.aC (ai.aW (NX (af.seq (SR ?_))))))
 have hiu:i=us.length:=by omega
 subst hiu
 have GW:q.length<=us.length+1:=by have:=hpt.len;cases dn<;>simp at this<;>omega
 refine jK 2 [80] [] ?_
 refine NN (af.cond (b:=(!dn)) (fun _=>by kernel_rfl) (fun Qu=>?_) (fun Qu=>?_))
 ·refine SR (jN 4 [82,84] (fun qA=>[(1,a_ 1 b6)]) (fun _=>[]) (fun qA=>.blk qA [vI ((aq.least us))] 3) (fun qA=>?_))
  refine jZ 2 38 (some ⟨qA,0,none⟩) 1 1 [vI ((aq.least us))] rfl (dV (j:=6) rfl) (fun Ev Ew=>?_) (hb:=by grind)
  refine ak.bM 2 rfl (FK (x:=(aq.least us,x)) rfl) ?_
  refine sl 85 (.slice Ev (q.length+1) (Ew)) (.slice Ev ((q++[(aq.least us,x)]).length) (Ew)) (by rw [kH q (aq.least us,x)]) ?_
  refine jC 2 [] [(1,a_ 1 b6)] [(1,[(2,.slice Ev ((q++[(aq.least us,x)]).length) (Ew))])] ?_
  refine NN (af.region (jN 4 [88,90] (fun rI=>[(1,a_ 1 b6)]) (fun _=>[]) (fun rI=>.blk rI [vI (x)] 3) (fun rI=>?_)))
  refine jZ 3 38 (some ⟨rI,0,none⟩) 1 1 [vI (x)] rfl (dV (j:=7) rfl) (fun Ey Ez=>?_) (hb:=by grind)
  refine ak.bM 3 rfl (FL (x:=(aq.least us,x)) rfl) ?_
  refine sl 91 (.slice Ey (q.length+1) (Ez)) (.slice Ey ((q++[(aq.least us,x)]).length) (Ez)) (by rw [kH q (aq.least us,x)]) ?_
  refine jC 2 [] [(1,a_ 1 b6)] [(1,[(3,.slice Ey ((q++[(aq.least us,x)]).length) (Ez))])] ?_
  refine NN (af.seq (SR (jK 6 [98] [(1,a_ 1 b6),(4,a_ 1 b6)] ?_)))
  refine NN (cP (((((q++[(aq.least us,x)]).length:Nat):Int):Int) > (p:Int)) (fun Yg=>?_) (fun Yg=>?_))
  ·refine af.region (jC 5 [] [(1,a_ 1 b6),(4,a_ 1 b6)] [(1,[(1,vI ↑((q++[(aq.least us,x)]).length))])] ?_)
   refine NS (jC 5 [5,6] [(0,A_ 1 b6 4),(2,A_ 4 b5 4)] [(4,[(0,vI (M)),(1,vI ↑((q++[(aq.least us,x)]).length)),(2,.slice Ev ((q++[(aq.least us,x)]).length) (Ew)),(3,.slice Ey ((q++[(aq.least us,x)]).length) (Ez))])] ?_)
   refine NN (af.ret ?_)
   have hq:(q++[(aq.least us,x)])=ins (aq.least us) x us:=iX.last ((show dn=false by simpa using Qu) ▸ hpt)
   have Yh:((q++[(aq.least us,x)])).length=us.length+1:=by rw [hq,iL]
   skip
   exact rT (.tuple #[.agg #[vI (M),vI ↑((q++[(aq.least us,x)]).length),.slice Ev ((q++[(aq.least us,x)]).length) (Ew),.slice Ey ((q++[(aq.least us,x)]).length) (Ez)],vI ((aq.least us)),vI 0]) [A_ 4 b5 4] [2,3,5] (⟨Ev,Ew,Ey,Ez,by grind,by rw [← hq]⟩)
  refine af.skip (NX (SR (jC 5 [5,6] [(0,A_ 1 b6 4),(2,A_ 4 b5 4)] [(4,[(0,vI (M)),(1,vI (p)),(2,.slice Ev ((q++[(aq.least us,x)]).length) (Ew)),(3,.slice Ey ((q++[(aq.least us,x)]).length) (Ez))])] ?_)))
  refine NN (af.ret ?_)
  have hq:(q++[(aq.least us,x)])=ins (aq.least us) x us:=iX.last ((show dn=false by simpa using Qu) ▸ hpt)
  have Yh:((q++[(aq.least us,x)])).length=us.length+1:=by rw [hq,iL]
  skip
  exact rT (.tuple #[.agg #[vI (M),vI (p),.slice Ev ((q++[(aq.least us,x)]).length) (Ew),.slice Ey ((q++[(aq.least us,x)]).length) (Ez)],vI ((aq.least us)),vI 0]) [A_ 4 b5 4] [2,3,5] (⟨Ev,Ew,Ey,Ez,by grind,by rw [← hq]⟩)
 refine af.skip (NX (af.seq (SR (jK 6 [98] [(1,a_ 1 b6),(4,a_ 1 b6)] ?_))))
 refine NN (cP ((((q.length:Nat):Int):Int) > (p:Int)) (fun Yg=>?_) (fun Yg=>?_))
 ·refine af.region (jC 5 [] [(1,a_ 1 b6),(4,a_ 1 b6)] [(1,[(1,vI ↑q.length)])] ?_)
  refine NS (jC 5 [5,6] [(0,A_ 1 b6 4),(2,A_ 4 b5 4)] [(4,[(0,vI (M)),(1,vI ↑q.length),(2,.slice Ah (q.length) (ch)),(3,.slice Av (q.length) (cv))])] ?_)
  refine NN (af.ret ?_)
  have hq:q=ins (aq.least us) x us:=iX.end_ ((show dn=true by simpa using Qu) ▸ hpt)
  have Yh:(q).length=us.length+1:=by rw [hq,iL]
  skip
  exact rT (.tuple #[.agg #[vI (M),vI ↑q.length,.slice Ah (q.length) (ch),.slice Av (q.length) (cv)],vI ((aq.least us)),vI 0]) [A_ 4 b5 4] [2,3,5] (⟨Ah,ch,Av,cv,by grind,by rw [← hq]⟩)
 refine af.skip (NX (SR (jC 5 [5,6] [(0,A_ 1 b6 4),(2,A_ 4 b5 4)] [(4,(Vv M p Ah q ch Av cv))] ?_)))
 refine NN (af.ret ?_)
 have hq:q=ins (aq.least us) x us:=iX.end_ ((show dn=true by simpa using Qu) ▸ hpt)
 have Yh:(q).length=us.length+1:=by rw [hq,iL]
 skip
 exact rT (.tuple #[.agg #[vI (M),vI (p),.slice Ah (q.length) (ch),.slice Av (q.length) (cv)],vI ((aq.least us)),vI 0]) [A_ 4 b5 4] [2,3,5] (⟨Ah,ch,Av,cv,by grind,by rw [← hq]⟩)
theorem TV {β:Bs} (M p:Int) (A B:Option Addr) (c d:Nat) (us:Used Int) (hA:bT β A (ints (keys us))) (hB:bT β B (ints (gn us))) (hl:us.length<=16777216) (h:Int) (hr:aq.bH (keys us)) (k:Nat) (hk:k < us.length) (gj:qx (keys us) h=(k:Int)) (hx:(keys us).getD k 0=h) :
    Spec Tryz.prog β 78 #[.agg #[vI (M),vI (p),.slice A (us.length) (c),.slice B (us.length) (d)],vI h] [] (fun v l=>∃ A' c' B' d',v=.tuple #[.agg #[vI (M),vI (p),.slice A' (del h us).length c',.slice B' (del h us).length d'],vI ((gn us).getD k 0),vI 0]/\l=[.abs (ay 3 1 A' (del h us).length c' (ints (keys (del h us)))),.abs (ay 3 1 B' (del h us).length d' (ints (gn (del h us))))]):=by
 have hkp:=uV hk
 refine SE Tryz.func78 Tryz.ntmps78 (fun R=>?_)
 refine SR (jN 1 [2] (fun _=>[]) (fun _=>[]) (fun vM=>.blk vM [vI (M),vI (p),.slice A (us.length) (c),.slice B (us.length) (d)] 40) (fun vM=>?_))
 refine jN 3 [4] (fun _=>[]) (fun _=>[]) (fun vN=>.blk vN [vI 0,vI 0,.slice none (0) (0),.slice none (0) (0)] 40) (fun vN=>?_)
 refine NS (jK 2 [10,11] [(0,A_ 1 vM 4)] ?_)
 refine gL [] (AV M p A B c d us hA hl h) ?_
 rintro _ _ ⟨rfl,rfl⟩
 refine sl 12 (.int .i64 ((qx (keys us) h))) (.int .i64 ↑k) (Va gj) ?_
 refine jK 1 [7] [] ?_
 refine NN (af.seq (SR (jK 2 [14] [(1,wF (((k:Int):Int) < (0:Int)))] ?_)))
 refine NN (CF (af.skip (NX (SR (jN 7 [8] (fun vO=>[(1,a_ 1 vM),(3,a_ 1 vM),(6,A_ 3 vO 4)]) (fun _=>[]) (fun vO=>.blk vO [vI (M),vI (p),.slice none (0) (0),.slice none (0) (0)] 40) (fun vO=>?_))))))
 refine NN (af.seq (SR (ak.mem (fun w hS=>(hS.kX (e:=3) (size:=1)).kX (e:=3) (size:=1)) ?_)))
 refine jK 1 [9] [] ?_
 refine NN (af.block ?_)
 refine lJ (fun (i,q,Ah,ch,Av,cv)=>(i<=us.length)/\(q=del h (us.take i))/\(q.length<=i)) (fun (i,q,Ah,ch,Av,cv)=>us.length - i) (fun (i,q,Ah,ch,Av,cv)=>(Yf vM vN++[(7,vI ↑k),(8,vP vO),(9,vI ↑i)])) (fun (i,q,Ah,ch,Av,cv)=>[tW vM M p A us c B d,tW vO M p Ah q ch Av cv,.abs (ay 3 1 Ah q.length ch (ints (keys q))),Qt Av q cv,Eu vN,.abs R]) (0,[],none,0,none,0) [1,3,4,5,2,0] (⟨Nat.zero_le _,by rw [List.take_zero];rfl,Nat.le_refl _⟩) ?_
 rintro⟨i,q,Ah,ch,Av,cv⟩ ⟨hi,hq,GW⟩
 refine af.seq (SR (jK 5 [25] [(2,a_ 0 vM)] ?_))
 refine NN (cP ((((i:Nat):Int):Int) < (((us.length:Nat):Int):Int)) (fun oH=>?_) (fun oH=>?_))
 ·refine af.skip (NX (af.seq (af.block (SR ?_))))
  have hpi:=uV (us:=us) (i:=i) (by omega)
  refine jK 3 [30] [] ?_
  refine NN (cN ((((i:Nat):Int):Int)=(((k:Nat):Int):Int)) (fun lC=>?_) (fun lC=>?_))
  ·refine af.seq (rM (List.range 11) 7 [0,1,4,5] ?_)
   refine jR 7 [2,4,7,8,9,32,37] [(1,a_ 1 vO),(3,a_ 0 vM),(5,x_ i us.length (iW.hd hA (j:=i) (by rw [gD];omega))),(6,r_ (iW.rd hA (j:=i) (by rw [gD];omega)))] ?_
   refine mN [0,1,4,5] (fun JV=>[(38,.slice (some ⟨JV,0,none⟩) (1) (1))]) (fun _=>[]) (fun JV=>.blk JV [vI (((keys us).getD i 0))] 3) (fun JV=>?_)
   refine aY.cut (ι:=(Option Addr)×Nat) (fr':=fun ((AX,AY):(Option Addr)×Nat)=>[(2,vP vM),(4,vP vN),(7,vI ↑k),(8,vP vO),(9,vI ↑i),(39,.slice AX ((q++[(pr us i)]).length) (AY))]) (hp':=fun ((AX,AY):(Option Addr)×Nat)=>[tW vM M p A us c B d,tW vO M p Ah q ch Av cv,Vu AX q us i AY,Qt Av q cv,Eu vN,.abs R,Mz JV us i]) [0,1,4,5] rfl rfl ?_ rfl (fun _=>by kernel_rfl) ?_
   ·refine jZ 2 38 (some ⟨JV,0,none⟩) 1 1 [vI (((keys us).getD i 0))] rfl (dV (j:=6) rfl) (fun AX AY=>?_) (hb:=by have:=GW;have:=GW;omega)
    refine ak.bM 2 rfl (FK (x:=(pr us i)) hpi.1) ?_
    refine sl 39 (.slice AX (q.length+1) (AY)) (.slice AX ((q++[(pr us i)]).length) (AY)) (by rw [kH q (pr us i)]) ?_
    refine NL ?_
    exact MD (AX,AY) [2,4,7,8,9,39] [0,1,2,3,4,5,6]
   rintro⟨AX,AY⟩
   refine nC [0,1,4,5] [40] [] [] ?_
   refine aY.last rfl rfl ?_
   refine jC 1 [] [(0,a_ 1 vO)] [(1,[(2,.slice AX ((q++[(pr us i)]).length) (AY))])] ?_
   refine NL (ai.np (NX ?_))
   refine rM (List.range 11) 7 [0,1,4,5,6] ?_
   refine jR 7 [2,4,7,8,9,42,47] [(1,a_ 1 vO),(3,a_ 0 vM),(5,x_ i us.length (iW.hd hB (j:=i) (by rw [jo];omega))),(6,r_ (iW.rd hB (j:=i) (by rw [jo];omega)))] ?_
   refine mN [0,1,4,5,6] (fun MC=>[(48,.slice (some ⟨MC,0,none⟩) (1) (1))]) (fun _=>[]) (fun MC=>.blk MC [vI (((gn us).getD i 0))] 3) (fun MC=>?_)
   refine aY.cut (ι:=(Option Addr)×Nat) (fr':=fun ((Cw,Cx):(Option Addr)×Nat)=>[(2,vP vM),(4,vP vN),(7,vI ↑k),(8,vP vO),(9,vI ↑i),(49,.slice Cw ((q++[(pr us i)]).length) (Cx))]) (hp':=fun ((Cw,Cx):(Option Addr)×Nat)=>([tW vM M p A us c B d]++Ye vO M p AX q us i AY Av cv Cw Cx vN R JV MC)) [0,1,4,5,6] rfl rfl ?_ rfl (fun _=>by kernel_rfl) ?_
   ·refine jZ 3 38 (some ⟨MC,0,none⟩) 1 1 [vI (((gn us).getD i 0))] rfl (dV (j:=7) rfl) (fun Cw Cx=>?_) (hb:=by have:=GW;have:=GW;omega)
    refine ak.bM 3 rfl (FL (x:=(pr us i)) hpi.2) ?_
    refine sl 49 (.slice Cw (q.length+1) (Cx)) (.slice Cw ((q++[(pr us i)]).length) (Cx)) (by rw [kH q (pr us i)]) ?_
    refine NL ?_
    exact MD (Cw,Cx) [2,4,7,8,9,49] [0,1,2,3,4,5,6,7]
   rintro⟨Cw,Cx⟩
   refine nC [0,1,4,5,6] [50] [] [] ?_
   refine aY.last rfl rfl ?_
   refine jC 1 [] [(0,a_ 1 vO)] [(1,[(3,.slice Cw ((q++[(pr us i)]).length) (Cx))])] ?_
   refine NL (ai.np (ai.ax (NX (af.region ?_))))
   refine jK 3 [9] [(1,wJ ((i:Int)+1) (↑(i+1)))] ?_
   refine NL ?_
   exact tJ ((i+1),(q++[(pr us i)]),AX,AY,Cw,Cx) [0,1,2,3,4,5] (⟨by omega,(by grind [JQ,Er]),by grind⟩)
  refine af.skip (ai.ax (NX (af.region ?_)))
  refine jK 3 [9] [(1,wJ ((i:Int)+1) (↑(i+1)))] ?_
  refine NL ?_
  exact tJ ((i+1),q,Ah,ch,Av,cv) [0,1,2,3,4,5] (⟨by omega,by grind [JQ],by grind⟩)
 refine af.exit (ai.aC (ai.aC (ai.aW (NX (af.seq ?_)))))
 refine rM (List.range 9) 6 [0,1] ?_
 refine jR 6 [4,51,56] [(0,A_ 1 vO 4),(2,a_ 0 vM),(4,x_ k us.length (iW.hd hB (j:=k) (by rw [jo];omega))),(5,r_ (iW.rd hB (j:=k) (by rw [jo];omega)))] ?_
 refine nC [0,1] [] [(0,A_ 4 vN 4)] [(4,(Vv M p Ah q ch Av cv))] ?_
 refine nC [0,1] [5] [] [] ?_
 refine aY.last rfl rfl ?_
 refine jK 1 [6] [] ?_
 refine NL (ai.np (NX (af.ret ?_)))
 have ME:q=del h us:=by grind
 exact rT _ [A_ 4 vN 4] [2,3,5] (⟨Ah,ch,Av,cv,by rw [← ME],by rw [← ME]⟩)
theorem Ob {β:Bs} (M p:Int) (A B:Option Addr) (c d:Nat) (us:Used Int) (hA:bT β A (ints (keys us))) (hl:us.length<=16777216) (h:Int) (gj:qx (keys us) h = -1) :
    Spec Tryz.prog β 78 #[.agg #[vI (M),vI (p),.slice A (us.length) (c),.slice B (us.length) (d)],vI h] [] (fun v l=>v=.tuple #[.agg #[vI (M),vI (p),.slice A (us.length) (c),.slice B (us.length) (d)],vI 0,vI 131]/\l=[]):=by
 refine SE Tryz.func78 Tryz.ntmps78 (fun R=>?_)
 refine SR (jN 1 [2] (fun _=>[]) (fun _=>[]) (fun qB=>.blk qB [vI (M),vI (p),.slice A (us.length) (c),.slice B (us.length) (d)] 40) (fun qB=>?_))
 refine jN 3 [4] (fun _=>[]) (fun _=>[]) (fun tX=>.blk tX [vI 0,vI 0,.slice none (0) (0),.slice none (0) (0)] 40) (fun tX=>?_)
 refine NS (jK 2 [10,11] [(0,A_ 1 qB 4)] ?_)
 refine gL [] (AV M p A B c d us hA hl h) ?_
 rintro _ _ ⟨rfl,rfl⟩
 refine jK 1 [7] [] ?_
 refine NN (af.seq (SR (jK 2 [14] [] ?_)))
 refine NN (cP (((qx (keys us) h):Int) < (0:Int)) (fun iH=>?_) (fun iH=>?_))
 ·refine SR (jC 4 [5,6] [(0,A_ 1 qB 4),(1,A_ 2 tX 4)] [(2,(Vv M p A us c B d))] ?_)
  refine NN (af.ret (ai.aj ?_))
  exact rT _ [A_ 2 tX 4] [0] (⟨rfl,rfl⟩)
 exact absurd iH (by omega)
end
section
open Go.RowKit Go.Maps aX aq
section p
variable {R:RS} {h need e id:Int} {name:ByteArray} {d k to:Nat} {c:ar} {n:aA}
def exV:Except Int Nat->Value
  | .error e=>.tuple #[.int .i64 0,.int .i64 e]
  | .ok k=>.tuple #[.int .i64 k,.int .i64 0]
theorem Qv {us:Used Int} (hr:aq.bH (keys us)) {h:Int} (hm:h∈keys us):∃ k:Nat,qx (keys us) h=(k:Int)/\k < us.length/\(keys us).getD k 0=h/\aq.get us h=some ((gn us).getD k 0):=by
  grind [Mv,gD,uV,Yc]
theorem FN (hm:h∉keys R.us):qx (keys R.us) h = -1/\eN R h=.error 131:=⟨Mw hm,by unfold eN;rw [get_none.2 hm]⟩
theorem MF (hC:RC R) (hm:h∈keys R.us):∃ k:Nat,qx (keys R.us) h=(k:Int)/\k < R.us.length/\eN R h=.ok (tgt R.ns ((gn R.us).getD k 0))/\fP R.ns ((gn R.us).getD k 0)=(tgt R.ns ((gn R.us).getD k 0):Int):=by
  obtain⟨k,h1,h2,h3,h4⟩:=Qv hC.usr hm
  refine⟨k,h1,h2,by unfold eN;rw [h4],?_⟩
  exact (kg (hC.hand _ (wG (by rw [jo];exact h2)))).2.2
theorem p6 (hC:RC R) (h:Int):eN R h=.error 131\/∃ k,eN R h=.ok k/\k < R.ns.length:=by
  by_cases hm:h∈keys R.us
  ·obtain⟨k,_,h2,h3,_⟩:=MF hC hm
   exact .inr ⟨_,h3,(kg (hC.hand _ (wG (by rw [jo];exact h2)))).1⟩
  exact .inl (FN hm).2
theorem Qw (hh:eN R h=.error e):d8 R h name need=.error e:=by unfold d8;rw [hh]
theorem MG (hh:eN R h=.ok d) (hk:¬ (nd R.ns d).kind=2):d8 R h name need=.error 173:=by unfold d8;rw [hh];exact if_neg hk
theorem JW (hh:eN R h=.ok d) (hk:(nd R.ns d).kind=2) (hg:(nd R.ns d).id∈R.gone):d8 R h name need=.error 170:=by unfold d8;rw [hh];exact (if_pos hk).trans (if_pos hg)
theorem JX (hh:eN R h=.ok d) (hk:(nd R.ns d).kind=2) (hg:¬ (nd R.ns d).id∈R.gone) (hn:¬ bO name):d8 R h name need=.error 95:=by unfold d8;rw [hh];exact (if_pos hk).trans ((if_neg hg).trans (if_neg hn))
theorem JY (hh:eN R h=.ok d) (hk:(nd R.ns d).kind=2) (hg:¬ (nd R.ns d).id∈R.gone) (hn:bO name) (hb:¬ bits BinOp.and .i64 (nd R.ns d).mode need=need):d8 R h name need=.error 175:=by unfold d8;rw [hh];exact (if_pos hk).trans ((if_neg hg).trans ((if_pos hn).trans (if_neg hb)))
theorem Qx (hh:eN R h=.ok d) (hk:(nd R.ns d).kind=2) (hg:¬ (nd R.ns d).id∈R.gone) (hn:bO name) (hb:bits BinOp.and .i64 (nd R.ns d).mode need=need):d8 R h name need=.ok d:=by unfold d8;rw [hh];exact (if_pos hk).trans ((if_neg hg).trans ((if_pos hn).trans (if_pos hb)))
theorem nM (hC:RC R) (h:Int) (name:ByteArray) (need:Int):(∃ e,d8 R h name need=.error e/\¬ e=0)\/∃ d,d8 R h name need=.ok d/\d < R.ns.length:=by
  rcases p6 hC h with hh|⟨k,hh,hk⟩
  all_goals grind [Qw,nd,JW,bO,Qx,JY,JX,MG]
noncomputable def yN (R:RS) (c:ar) (need:Int):Value:=match d8 R c.handle c.name need with
  | .error e=>.tuple #[.int .i64 0,.int .i64 0,.int .i64 e]
  | .ok f=>match d8 R c.other c.text 192 with
    | .error e=>.tuple #[.int .i64 f,.int .i64 0,.int .i64 e]
    | .ok to=>.tuple #[.int .i64 f,.int .i64 to,.int .i64 0]
theorem Qy (h:d8 R c.handle c.name need=.error e):yN R c need=.tuple #[.int .i64 0,.int .i64 0,.int .i64 e]:=by unfold yN;rw [h]
theorem Qz (h:d8 R c.handle c.name need=.ok d) (h2:d8 R c.other c.text 192=.error e):yN R c need=.tuple #[.int .i64 d,.int .i64 0,.int .i64 e]:=by unfold yN;rw [h];simp only [h2]
theorem QA (h:d8 R c.handle c.name need=.ok d) (h2:d8 R c.other c.text 192=.ok to):yN R c need=.tuple #[.int .i64 d,.int .i64 to,.int .i64 0]:=by unfold yN;rw [h];simp only [h2]
theorem GX (hC:RC R) (c:ar) (need:Int):(∃ a e,mI R c need=.error e/\¬ e=0/\yN R c need=.tuple #[.int .i64 a,.int .i64 0,.int .i64 e])\/∃ f to,mI R c need=.ok (f,to)/\f < R.ns.length/\to < R.ns.length/\yN R c need=.tuple #[.int .i64 f,.int .i64 to,.int .i64 0]:=by
  rcases nM hC c.handle c.name need with ⟨e,h1,h2⟩|⟨f,h1,h2⟩
  ·exact .inl ⟨0,e,by unfold mI;rw [h1],h2,Qy h1⟩
  rcases nM hC c.other c.text 192 with ⟨e,h3,h4⟩|⟨to,h3,h4⟩
  ·exact .inl ⟨f,e,by unfold mI;rw [h1];simp only [h3],h4,Qz h1 h3⟩
  exact .inr ⟨f,to,by unfold mI;rw [h1];simp only [h3],h2,h4,QA h1 h3⟩
theorem j6 (ns:List aA) (d:Nat) (name:ByteArray):bn ns d name = -1\/∃ k:Nat,bn ns d name=(k:Int)/\k < ns.length:=by
  unfold bn
  split
  ·exact .inl rfl
  rename_i j _
  by_cases h:0<=fP ns (en (nd ns d).ah j).id
  ·exact .inr ⟨_,(kg h).2.2,(kg h).1⟩
  exact .inl (BD h)
theorem TW (h:¬ (R.ns.length:Int) < R.cN):false=decide (rN R):=(decide_eq_false (fun q=>h q.1)).symm
theorem TY (h:¬ R.last < 1099511627776):false=decide (rN R):=(decide_eq_false (fun q=>h q.2.1)).symm
theorem Yi (h:(R.ns.length:Int) < R.cN) (h2:R.last < 1099511627776):decide ((bJ R.ns R.ns.length:Int) < 8192)=decide (rN R):=decide_eq_decide.2 ⟨fun q=>⟨h,h2,q⟩,fun q=>q.2.2⟩
theorem Yj (h:¬ 0<=id):false=decide (gy id):=(decide_eq_false (fun q=>h q.1)).symm
theorem aas (h:0<=id):decide (id<=4095)=decide (gy id):=decide_eq_decide.2 ⟨fun q=>⟨h,q⟩,fun q=>q.2⟩
theorem T3 (h:name=⟨#[]⟩):90=iT name:=by unfold iT;rw [if_pos h]
theorem QB (h:¬ name=⟨#[]⟩) (h2:4096 < (name.size:Int)):93=iT name:=by unfold iT;rw [if_neg h,if_pos (by omega)]
theorem QC (h:¬ name=⟨#[]⟩) (h2:¬ 4096 < (name.size:Int)) (h3:∀ q,q < name.size->¬ cJ name q=0):0=iT name:=by unfold iT;rw [if_neg h,if_neg (by omega),if_pos (show pU name from h3)]
theorem T4 (h:¬ name=⟨#[]⟩) (h2:¬ 4096 < (name.size:Int)) {q:Nat} (hq:q < name.size) (h3:cJ name q=0):91=iT name:=by unfold iT;rw [if_neg h,if_neg (by omega),if_neg (fun g=>g q hq h3)]
def Yk:Except Int Nat->Int
  | .error _=>0
  | .ok k=>k
def Vw:Except Int Nat->Int
  | .error e=>e
  | .ok _=>0
theorem Yl (x:Except Int Nat):exV x=.tuple #[.int .i64 (Yk x),.int .i64 (Vw x)]:=by cases x<;>rfl
noncomputable def mr (R:RS) (c:ar):Except Int Nat:=if c.op=12 then (match d8 R c.handle c.name 64 with|.error e=>.error e|.ok d=>if 0<=bn R.ns d c.name then .ok (bn R.ns d c.name).toNat else .error 170) else eN R c.handle
theorem JZ:mV R c=match mr R c with|.error e=>Es c e|.ok k=>BQ R c k:=by
  unfold mV mr
  grind
theorem T5 (h:mr R c=.error e):mV R c=Es c e:=by rw [JZ,h]
theorem T6 (h:mr R c=.ok k):mV R c=BQ R c k:=by rw [JZ,h]
theorem EA (h:¬ c.op=12):eN R c.handle=mr R c:=by unfold mr;rw [if_neg h]
theorem GY (h:c.op=12) (ha:d8 R c.handle c.name 64=.error e):.error e=mr R c:=by unfold mr;rw [if_pos h,ha]
theorem EB (h:c.op=12) (ha:d8 R c.handle c.name 64=.ok d) (hl:bn R.ns d c.name = -1):.error 170=mr R c:=by unfold mr;rw [if_pos h,ha];simp only;rw [if_neg (by rw [hl];decide)]
theorem EC (h:c.op=12) (ha:d8 R c.handle c.name 64=.ok d) (hl:bn R.ns d c.name=(k:Int)):.ok k=mr R c:=by unfold mr;rw [if_pos h,ha];simp only;rw [if_pos (by rw [hl];omega),hl];rfl
theorem LF (hC:RC R) (c:ar):(∃ e,mr R c=.error e/\¬ e=0)\/∃ k,mr R c=.ok k/\k < R.ns.length:=by
  by_cases h:c.op=12
  ·rcases nM hC c.handle c.name 64 with ⟨e,h1,h2⟩|⟨d,h1,_⟩
   ·exact .inl ⟨e,(GY h h1).symm,h2⟩
   rcases j6 R.ns d c.name with h2|⟨k,h2,h3⟩
   ·grind [EB]
   exact .inr ⟨k,(EC h h1 h2).symm,h3⟩
  rw [← EA h]
  rcases p6 hC c.handle with h1|h1
  ·exact .inl ⟨_,h1,by decide⟩
  exact .inr h1
end p
end
section
open Go.RowKit Go.Maps aX aq
attribute [local irreducible] ak aU af ai
noncomputable abbrev Ym (dc)(top)(b5:Nat) (st):=([(1,vI ↑dc),(2,vI ↑top),(3,vP b5),(7,vI ↑st)]:Fr)
theorem T7 {β:Bs} (Z:RS) (Y:RL) (hR:cD β Z Y) (hB:RB Z) :
    Spec Tryz.prog β 143 #[.agg ⟨rV Z Y⟩] [] (fun v l=>v=.bool (decide (rN Z))/\l=[]):=by
 refine SE Tryz.func143 Tryz.ntmps143 (fun R=>?_)
 refine SR (jN 2 [1] (fun _=>[]) (fun _=>[]) (fun b1=>.blk b1 (rV Z Y) 42) (fun b1=>?_))
 refine NS (jK 9 [11] [(2,a_ 1 b1),(6,a_ 1 b1)] ?_)
 refine sP 11 ((((Z.ns.length:Nat):Int):Int) < (Z.cN:Int)) (fun h11=>?_) (fun h11=>?_)
 ·refine jK 5 [16] [(1,a_ 1 b1)] ?_
  refine sP 16 ((Z.last:Int) < (1099511627776:Int)) (fun oy=>?_) (fun oy=>?_)
  ·refine jK 1 [17] [(0,A_ 1 b1 12)] ?_
   refine gL [] (JU Z Y hR hB) ?_
   rintro _ _ ⟨rfl,rfl⟩
   refine jK 3 [2] [] ?_
   refine NN (af.ret ?_)
   exact RT _ [0] (⟨congrArg Value.bool (Yi h11 oy),rfl⟩)
  refine jK 5 [2] [] ?_
  refine NN (af.ret ?_)
  exact RT _ [0] (⟨congrArg Value.bool (TY oy),rfl⟩)
 refine jK 10 [2] [] ?_
 refine NN (af.ret ?_)
 exact RT _ [0] (⟨congrArg Value.bool (TW h11),rfl⟩)
theorem pq {β:Bs} (Z:RS) (Y:RL) (hR:cD β Z Y) (hC:RC Z) (hx:Int) :
    Spec Tryz.prog β 67 #[.agg ⟨rV Z Y⟩,vI (hx)] [] (fun v l=>v=exV (eN Z hx)/\l=[]):=by
 refine SE Tryz.func67 Tryz.ntmps67 (fun R=>?_)
 refine SR (jN 3 [2] (fun _=>[]) (fun _=>[]) (fun b2=>.blk b2 (rV Z Y) 42) (fun b2=>?_))
 refine NN (af.seq ?_)
 by_cases hm:hx∈keys Z.us
 ·obtain⟨k,gj,hk,hh,hat⟩:=MF hC hm
  refine af.region (jK 3 [8,9] [(1,A_ 1 b2 4)] ?_)
  refine gL [] ((AV Z.cH Z.av Y.H Y.V Y.ch Y.cv Z.us hR.h (by have:=hC.us;omega) hx).val (congrArg (Value.int .i64) gj)) ?_
  rintro _ _ ⟨rfl,rfl⟩
  refine jK 1 [6] [] ?_
  refine NN (af.seq (SR (jK 2 [12] [(1,wF (((k:Int):Int) < (0:Int)))] ?_)))
  refine NN (CF (af.skip (NX (af.seq (af.bF (by kernel_rfl) (by kernel_rfl) ?_)))))
  refine jQ 8 [14,20] [(1,a_ 1 b2),(4,a_ 1 b2),(6,x_ k Z.us.length (oJ.hd (l:=(gn Z.us)) hR.v (j:=k) (by grind [gD,jo]))),(7,r_ (oJ.rd (l:=(gn Z.us)) hR.v (j:=k) (by grind [gD,jo])))] ?_
  refine jU [] [0,1] (.int .i64 ↑(tgt Z.ns ((gn Z.us).getD k 0))) ((DV Y.A Y.c Z.ns Y.L hR.n hC.rise (by have:=hC.ns;omega) ((gn Z.us).getD k 0)).val (congrArg (Value.int .i64) hat)) ?_
  refine jQ 2 [4,5] [] ?_
  refine NQ (NX (af.ret ?_))
  exact RT _ [0] (⟨(congrArg exV hh).symm,rfl⟩)
 obtain⟨gj,hh⟩:=FN hm
 refine af.region (jK 3 [8,9] [(1,A_ 1 b2 4)] ?_)
 refine gL [] ((AV Z.cH Z.av Y.H Y.V Y.ch Y.cv Z.us hR.h (by have:=hC.us;omega) hx).val (congrArg (Value.int .i64) gj)) ?_
 rintro _ _ ⟨rfl,rfl⟩
 refine jK 1 [6] [] ?_
 refine NN (af.seq (SR (jK 2 [12] [] ?_)))
 refine NN (CT (SR (jK 2 [4,5] [] ?_)))
 refine NN (af.ret (ai.aj ?_))
 exact RT _ [0] (⟨(congrArg exV hh).symm,rfl⟩)
theorem kU {β:Bs} (Z:RS) (Y:RL) (hR:cD β Z Y) (hC:RC Z) (hx:Int) (name:ByteArray) (hn:name.size<=1048576) (need:Int) :
    Spec Tryz.prog β 68 #[.agg ⟨rV Z Y⟩,vI (hx),.string name,vI (need)] [] (fun v l=>v=exV (d8 Z hx name need)/\l=[]):=by
 refine SE Tryz.func68 Tryz.ntmps68 (fun R=>?_)
 refine SR (jN 3 [4] (fun _=>[]) (fun _=>[]) (fun b3=>.blk b3 (rV Z Y) 42) (fun b3=>?_))
 refine NS (jK 2 [14,15] [(0,A_ 1 b3 12)] ?_)
 rcases p6 hC hx with hh|⟨d,hh,hd⟩
 ·refine gL [] ((pq Z Y hR hC hx).val (congrArg exV hh)) ?_
  rintro _ _ ⟨rfl,rfl⟩
  refine jK 5 [10,11] [] ?_
  refine NN (af.seq (SR (jK 2 [20] [] ?_)))
  refine NN (CT (SR (jK 3 [8,9] [] ?_)))
  refine NN (af.ret (ai.aj ?_))
  exact RT _ [0] (⟨(congrArg exV (Qw hh)).symm,rfl⟩)
 refine gL [] ((pq Z Y hR hC hx).val (congrArg exV hh)) ?_
 rintro _ _ ⟨rfl,rfl⟩
 refine jK 5 [10,11] [] ?_
 refine NN (af.seq (SR (jK 2 [20] [] ?_)))
 refine NN (CF (af.skip (NX (SR (jN 8 [12] (fun b4=>[(2,a_ 1 b3),(4,x_ d Z.ns.length (aB.hd hR.n (i:=d) (by omega))),(5,zP (eT Y.L d (nd Z.ns d)) (fun _ _ h=>aB.rd hR.n (by omega) h)),(7,A_ 2 b4 10)]) (fun _=>[]) (fun b4=>.blk b4 (eT Y.L d (nd Z.ns d)) 66) (fun b4=>?_))))))
 refine NN (af.seq (SR (jK 3 [30] [(1,a_ 2 b4)] ?_)))
 refine NN (cN (((nd Z.ns d).kind:Int)=(2:Int)) (fun lC=>?_) (fun lC=>?_))
 ·refine SR (jK 2 [8,9] [] ?_)
  refine NN (af.ret (ai.aj ?_))
  exact RT _ [0] (⟨(congrArg exV (MG hh lC)).symm,rfl⟩)
 refine af.skip (NX (af.seq (SR (jK 3 [31,33] [(0,A_ 1 b3 12),(2,a_ 2 b4)] ?_))))
 refine gL [] (vJ Z Y hR hC.toRB (nd Z.ns d).id) ?_
 rintro _ _ ⟨rfl,rfl⟩
 refine NN (cP ((nd Z.ns d).id∈Z.gone) (fun vD=>?_) (fun vD=>?_))
 ·refine SR (jK 2 [8,9] [] ?_)
  refine NN (af.ret (ai.aj ?_))
  exact RT _ [0] (⟨(congrArg exV (JW hh lC vD)).symm,rfl⟩)
 refine af.skip (NX (af.seq (SR (jK 1 [35] [] ?_))))
 refine gL [] (DU name hn) ?_
 rintro _ _ ⟨rfl,rfl⟩
 refine jK 1 [37] [] ?_
 refine NN (cN (bO name) (fun uo=>?_) (fun uo=>?_))
 ·refine SR (jK 2 [8,9] [] ?_)
  refine NN (af.ret (ai.aj ?_))
  exact RT _ [0] (⟨(congrArg exV (JX hh lC vD uo)).symm,rfl⟩)
 refine af.skip (NX (af.seq (SR (jK 6 [43] [(1,a_ 2 b4)] ?_))))
 refine NN (cN ((bits BinOp.and .i64 ((nd Z.ns d).mode) need:Int)=(need:Int)) (fun Em=>?_) (fun Em=>?_))
 ·refine SR (jK 2 [8,9] [] ?_)
  refine NN (af.ret (ai.aj ?_))
  exact RT _ [0] (⟨(congrArg exV (JY hh lC vD uo Em)).symm,rfl⟩)
 refine af.skip (NX (SR (jK 3 [8,9] [] ?_)))
 refine NN (af.ret ?_)
 exact RT _ [0] (⟨(congrArg exV (Qx hh lC vD uo Em)).symm,rfl⟩)
theorem T8 {β:Bs} (name:ByteArray) (hn:name.size<=1048576) :
    Spec Tryz.prog β 142 #[.string name] [] (fun v l=>v=vI (iT name)/\l=[]):=by
 refine SE Tryz.func142 Tryz.ntmps142 (fun R=>?_)
 refine SR (jK 1 [] [] ?_)
 refine NN (af.seq (SR (jK 2 [5] [(1,w_ (.bool (decide ((name:ByteArray)=⟨#[]⟩))) (mX _ _))] ?_)))
 refine NN (cP ((name:ByteArray)=⟨#[]⟩) (fun h5=>?_) (fun h5=>?_))
 ·refine SR (jK 1 [2] [] ?_)
  refine NN (af.ret (ai.aj ?_))
  exact RT _ [0] (⟨congrArg (Value.int .i64) (T3 h5),rfl⟩)
 refine af.skip (NX (af.seq (SR (jK 3 [8] [] ?_))))
 refine NN (cP (((((name:ByteArray).size:Nat):Int):Int) > (4096:Int)) (fun h8=>?_) (fun h8=>?_))
 ·refine SR (jK 1 [2] [] ?_)
  refine NN (af.ret (ai.aj ?_))
  exact RT _ [0] (⟨congrArg (Value.int .i64) (QB h5 h8),rfl⟩)
 refine af.skip (NX (af.seq (SR (jK 1 [3] [] ?_))))
 refine NN (af.block ?_)
 refine lJ (fun (i:Nat)=>(i<=name.size)/\(∀ q,q < i->¬ cJ name q=0)) (fun (i:Nat)=>name.size - i) (fun (i:Nat)=>[(0,.string name),(3,vI ↑i)]) (fun (i:Nat)=>[.abs R]) 0 [0] (⟨Nat.zero_le _,fun q hq=>absurd hq (Nat.not_lt_zero q)⟩) ?_
 rintro i ⟨hi,hno⟩
 refine af.seq (SR (jK 4 [12] [] ?_))
 refine NN (cP ((((i:Nat):Int):Int) < ((((name:ByteArray).size:Nat):Int):Int)) (fun h12=>?_) (fun h12=>?_))
 ·refine af.skip (NX (af.seq (af.block (SR ?_))))
  refine jK 4 [18] [(2,xP i (i < (name:ByteArray).size))] ?_
  refine NN (cP ((((((name:ByteArray).data.getD (i) 0).toNat:Nat):Int):Int)=(0:Int)) (fun nI=>?_) (fun nI=>?_))
  ·refine SR (jK 1 [2] [] ?_)
   refine NN (af.ret (ai.au (ai.aj (ai.aj (ai.au (ai.aj ?_))))))
   exact RT _ [0] (⟨congrArg (Value.int .i64) (T4 h5 h8 (q:=i) (by omega) (by unfold cJ;omega)),rfl⟩)
  refine af.skip (ai.ax (NX (af.region ?_)))
  refine jK 3 [3] [(1,wJ ((i:Int)+1) (↑(i+1)))] ?_
  refine NL ?_
  exact tJ ((i+1)) [0] (⟨by omega,fun q hq=>by grind [cJ]⟩)
 refine af.exit (ai.aC (ai.aC (ai.aW (NX (SR ?_)))))
 refine jK 1 [2] [] ?_
 refine NN (af.ret ?_)
 exact RT _ [0] (⟨congrArg (Value.int .i64) (QC h5 h8 (fun q hq=>hno q (by omega))),rfl⟩)
theorem J0 {β:Bs} (m:Int) :
    Spec Tryz.prog β 112 #[vI m] [] (fun v l=>v=.bool (decide (gy m))/\l=[]):=by
 refine SE Tryz.func112 Tryz.ntmps112 (fun R=>?_)
 refine SR (jK 1 [] [] ?_)
 refine NS (jK 3 [5] [] ?_)
 refine sP 5 ((m:Int) ≥ (0:Int)) (fun h5=>?_) (fun h5=>?_)
 ·refine jK 4 [2] [] ?_
  refine NN (af.ret ?_)
  exact RT _ [0] (⟨congrArg Value.bool (aas h5),rfl⟩)
 refine jK 4 [2] [] ?_
 refine NN (af.ret ?_)
 exact RT _ [0] (⟨congrArg Value.bool (Yj h5),rfl⟩)
theorem QD {β:Bs} (Z:RS) (Y:RL) (hR:cD β Z Y) (hB:RB Z) (d top:Nat) (hd:d < Z.ns.length) :
    Spec Tryz.prog β 114 #[.agg ⟨rV Z Y⟩,vI (((d:Nat):Int)),vI (((top:Nat):Int))] [] (fun v l=>v=.bool (fU Z.ns top (Z.ns.length+1) d)/\l=[]):=by
 refine SE Tryz.func114 Tryz.ntmps114 (fun R=>?_)
 refine SR (jN 2 [3] (fun _=>[]) (fun _=>[]) (fun b5=>.blk b5 (rV Z Y) 42) (fun b5=>?_))
 refine NN (af.seq (SR (jK 1 [7] [] ?_)))
 refine NN (af.block ?_)
 refine lJ (fun (st,dc)=>(st<=Z.ns.length+1)/\(dc < Z.ns.length)/\(fU Z.ns top (Z.ns.length+1 - st) dc=(fU Z.ns top (Z.ns.length+1) d))) (fun (st,dc)=>Z.ns.length+1 - st) (fun (st,dc)=>(Ym dc top b5 st)) (fun (st,dc)=>[.abs R,.blk b5 (rV Z Y) 42]) (0,d) [0,1] (⟨Nat.zero_le _,hd,rfl⟩) ?_
 rintro⟨st,dc⟩ ⟨hst,hdc,hbl⟩
 have Vt:=hB.ns
 refine af.seq (SR (jK 6 [16] [(3,a_ 1 b5)] ?_))
 refine NN (cP ((((st:Nat):Int):Int)<=(((Z.ns.length:Nat):Int):Int)) (fun oy=>?_) (fun oy=>?_))
 ·refine af.skip (NX (af.seq (af.block (af.seq (SR ?_)))))
  refine jK 3 [21] [] ?_
  refine NN (cP ((((dc:Nat):Int):Int)=(((top:Nat):Int):Int)) (fun oA=>?_) (fun oA=>?_))
  ·replace oA:dc=top:=by omega
   refine SR (jK 1 [6] [] ?_)
   refine NN (af.ret (ai.aj (ai.au (ai.aj (ai.aj (ai.au (ai.aj ?_)))))))
   exact RT _ [0] (⟨by rw [← hbl,show Z.ns.length+1 - st=(Z.ns.length - st)+1 by omega,oA,Qr],rfl⟩)
  replace oA:¬ dc=top:=by omega
  refine af.skip (NX (SR (jK 1 [8] [] ?_)))
  refine NN (af.seq (SR (sl 8 (.int .i64 (-1)) (.int .i64 ((kF Z.ns (nd Z.ns dc).id 0))) (rfl) ?_)))
  refine jK 1 [9] [] ?_
  refine NN (af.block ?_)
  refine lJ (fun (i:Nat)=>(i<=Z.ns.length)) (fun (i:Nat)=>Z.ns.length - i) (fun (i:Nat)=>(Ym dc top b5 st++[(8,vI ((kF Z.ns (nd Z.ns dc).id i))),(9,vI ↑i)])) (fun (i:Nat)=>[.abs R,.blk b5 (rV Z Y) 42]) 0 [0,1] (Nat.zero_le _) ?_
  rintro i hi
  refine af.seq (SR (jK 6 [27] [(3,a_ 1 b5)] ?_))
  refine NN (cP ((((i:Nat):Int):Int) < (((Z.ns.length:Nat):Int):Int)) (fun IY=>?_) (fun IY=>?_))
  ·refine af.skip (NX (af.seq (af.block (SR ?_))))
   refine sl 8 (.int .i64 ((kF Z.ns (nd Z.ns dc).id i))) (.int .i64 ((wH Z.ns (nd Z.ns dc).id i 0))) (congrArg (Value.int .i64) TQ) ?_
   refine jK 1 [10] [] ?_
   refine NN (af.block ?_)
   refine lJ (fun (j:Nat)=>(j<=(nd Z.ns i).ah.length)) (fun (j:Nat)=>(nd Z.ns i).ah.length - j) (fun (j:Nat)=>(Ym dc top b5 st++[(8,vI ((wH Z.ns (nd Z.ns dc).id i j))),(9,vI ↑i),(10,vI ↑j)])) (fun (j:Nat)=>[.abs R,.blk b5 (rV Z Y) 42]) 0 [0,1] (Nat.zero_le _) ?_
   rintro j hj
   have hrw:=hB.row (i:=i) (by omega)
   refine af.seq (SR (jK 10 [39] [(3,a_ 1 b5),(5,x_ i Z.ns.length (aB.hd hR.n (i:=i) (by omega))),(7,r_ (aB.rd hR.n (i:=i) (by omega) (j:=9) rfl))] ?_))
   refine NN (cP ((((j:Nat):Int):Int) < ((((nd Z.ns i).ah.length:Nat):Int):Int)) (fun qV=>?_) (fun qV=>?_))
   ·refine af.skip (NX (af.seq (af.block (af.seq ?_))))
    refine af.bF (by kernel_rfl) (by kernel_rfl) ?_
    refine jQ 19 [60] [(2,a_ 1 b5),(4,x_ i Z.ns.length (aB.hd hR.n (i:=i) (by omega))),(6,r_ (aB.rd hR.n (i:=i) (by omega) (j:=9) rfl)),(8,x_ j ((nd Z.ns i).ah.length) (bg.hd (hR.n.ah i (by omega)) (i:=j) (by omega))),(10,r_ (bg.rd (hR.n.ah i (by omega)) (i:=j) (by omega) (j:=1) rfl)),(13,a_ 1 b5),(15,x_ dc Z.ns.length (aB.hd hR.n (i:=dc) (by omega))),(17,r_ (aB.rd hR.n (i:=dc) (by omega) (j:=0) rfl))] ?_
    refine NQ (NX ?_)
    refine cP (((en (nd Z.ns i).ah j).id:Int)=((nd Z.ns dc).id:Int)) (fun I5=>?_) (fun I5=>?_)
    ·refine af.region (jK 2 [8] [] ?_)
     refine NL (ai.ax (NX (af.region ?_)))
     refine sl 8 (.int .i64 ↑i) (.int .i64 ((wH Z.ns (nd Z.ns dc).id i (j+1)))) (congrArg (Value.int .i64) (WT I5)) ?_
     refine jK 3 [10] [(1,wJ ((j:Int)+1) (↑(j+1)))] ?_
     refine NL ?_
     exact tJ ((j+1)) [0,1] ((by omega))
    refine af.skip (ai.ax (NX (af.region ?_)))
    refine sl 8 (.int .i64 ((wH Z.ns (nd Z.ns dc).id i j))) (.int .i64 ((wH Z.ns (nd Z.ns dc).id i (j+1)))) (congrArg (Value.int .i64) (TR I5)) ?_
    refine jK 3 [10] [(1,wJ ((j:Int)+1) (↑(j+1)))] ?_
    refine NL ?_
    exact tJ ((j+1)) [0,1] ((by omega))
   refine af.exit (ai.aC (ai.aC (ai.aW (ai.ax (NX (af.region ?_))))))
   refine sl 8 (.int .i64 ((wH Z.ns (nd Z.ns dc).id i j))) (.int .i64 ((kF Z.ns (nd Z.ns dc).id (i+1)))) (by grind [WS,nd]) ?_
   refine jK 3 [9] [(1,wJ ((i:Int)+1) (↑(i+1)))] ?_
   refine NL ?_
   exact tJ ((i+1)) [0,1] ((by omega))
  refine af.exit (ai.aC (ai.aC (ai.aW (NX (af.seq (SR ?_))))))
  refine sl 8 (.int .i64 ((kF Z.ns (nd Z.ns dc).id i))) (.int .i64 ((kF Z.ns (nd Z.ns dc).id Z.ns.length))) (by rw [show i=Z.ns.length by omega]) ?_
  refine jK 2 [63] [] ?_
  refine NN (cP (((kF Z.ns (nd Z.ns dc).id Z.ns.length):Int) < (0:Int)) (fun h63=>?_) (fun h63=>?_))
  ·refine SR (jK 1 [6] [] ?_)
   refine NN (af.ret (ai.aj (ai.au (ai.aj (ai.aj (ai.au (ai.aj ?_)))))))
   exact RT _ [0] (⟨by rw [← hbl,show Z.ns.length+1 - st=(Z.ns.length - st)+1 by omega,Oa oA h63],rfl⟩)
  refine af.skip (NX (af.region (sl 8 (.int .i64 ((kF Z.ns (nd Z.ns dc).id Z.ns.length))) (.int .i64 ↑((kF Z.ns (nd Z.ns dc).id Z.ns.length).toNat)) (congrArg (Value.int .i64) (by omega)) ?_)))
  refine jK 2 [1] [] ?_
  refine NL (ai.ax (NX (af.region ?_)))
  refine jK 3 [7] [(1,wJ ((st:Int)+1) (↑(st+1)))] ?_
  refine NL ?_
  exact tJ ((st+1),(kF Z.ns (nd Z.ns dc).id Z.ns.length).toNat) [0,1] (⟨by omega,by have:=Qq (ns:=Z.ns) (id:=(nd Z.ns dc).id) Z.ns.length;omega,by rw [← hbl,show Z.ns.length+1 - st=(Z.ns.length+1 - (st+1))+1 by omega,TS oA h63]⟩)
 refine af.exit (ai.aC (ai.aC (ai.aW (NX (SR ?_)))))
 refine jK 1 [6] [] ?_
 refine NN (af.ret ?_)
 exact RT (.bool false) [0] (⟨by rw [← hbl,show Z.ns.length+1 - st=0 by omega];rfl,rfl⟩)
theorem BR {β:Bs} (Z:RS) (Y:RL) (hR:cD β Z Y) (hC:RC Z) (c:ar) (hn:c.name.size<=1048576) (ht:c.text.size<=1048576) (need:Int) :
    Spec Tryz.prog β 73 #[.agg ⟨rV Z Y⟩,.agg ⟨aK c⟩,vI (need)] [] (fun v l=>v=yN Z c need/\l=[]):=by
 refine SE Tryz.func73 Tryz.ntmps73 (fun R=>?_)
 refine SR (jN 1 [3] (fun _=>[]) (fun _=>[]) (fun b6=>.blk b6 (rV Z Y) 42) (fun b6=>?_))
 refine jN 4 [4] (fun _=>[]) (fun _=>[]) (fun b7=>.blk b7 (aK c) 53) (fun b7=>?_)
 refine NS (jK 6 [13,15,17,18] [(0,A_ 1 b6 12),(2,a_ 2 b7),(4,a_ 2 b7)] ?_)
 rcases nM hC c.handle c.name need with ⟨e,h1,AZ⟩|⟨f,h1,hf⟩
 ·refine gL [] ((kU Z Y hR hC c.handle c.name hn need).val (congrArg exV h1)) ?_
  rintro _ _ ⟨rfl,rfl⟩
  refine jK 5 [9,10] [] ?_
  refine NN (af.seq (SR (jK 2 [23] [(1,Iz ((e:Int)=(0:Int)) AZ)] ?_)))
  refine NN (CT (SR (jK 4 [6,7,8] [] ?_)))
  refine NN (af.ret (ai.aj ?_))
  exact RT _ [0] (⟨(Qy h1).symm,rfl⟩)
 refine gL [] ((kU Z Y hR hC c.handle c.name hn need).val (congrArg exV h1)) ?_
 rintro _ _ ⟨rfl,rfl⟩
 refine jK 5 [9,10] [] ?_
 refine NN (af.seq (SR (jK 2 [23] [(1,p_ ⟨[],none,none,none,some (.bool false)⟩ [((.bool false:Value))=(.bool false)] ⟨rfl,trivial⟩)] ?_)))
 refine NN (CF (af.skip (NX (SR (jK 5 [26,28,30] [(0,A_ 1 b6 12),(2,a_ 2 b7),(4,a_ 2 b7)] ?_)))))
 rcases nM hC c.other c.text 192 with ⟨e,h2,h2e⟩|⟨to,h2,hto⟩
 ·refine gL [] ((kU Z Y hR hC c.other c.text ht 192).val (congrArg exV h2)) ?_
  rintro _ _ ⟨rfl,rfl⟩
  refine jK 5 [10,11] [] ?_
  refine NS (jK 6 [6,7,8] [] ?_)
  refine NN (af.ret ?_)
  exact RT _ [0] (⟨(Qz h1 h2).symm,rfl⟩)
 refine gL [] ((kU Z Y hR hC c.other c.text ht 192).val (congrArg exV h2)) ?_
 rintro _ _ ⟨rfl,rfl⟩
 refine jK 5 [10,11] [] ?_
 refine NS (jK 6 [6,7,8] [] ?_)
 refine NN (af.ret ?_)
 exact RT _ [0] (⟨(QA h1 h2).symm,rfl⟩)
theorem J1 {β:Bs} (Z:RS) (Y:RL) (hR:cD β Z Y) (hC:RC Z) (c:ar) (hn:c.name.size<=1048576) (A:Option Addr) (cc:Nat) (an:Int) :
    Spec Tryz.prog β 41 #[.agg ⟨rV Z Y⟩,.agg ⟨aK (cM { c with answer:=an } A cc)⟩,.agg ⟨aK { c with answer:=0 }⟩] [] (fun v l=>v=.agg ⟨aK (mV Z c)⟩/\l=[]):=by
 refine SE Tryz.func41 Tryz.ntmps41 (fun R=>?_)
 refine SR (jN 1 [3] (fun _=>[]) (fun _=>[]) (fun b8=>.blk b8 (rV Z Y) 42) (fun b8=>?_))
 refine jN 1 [4] (fun _=>[]) (fun _=>[]) (fun b9=>.blk b9 (aK (cM { c with answer:=an } A cc)) 53) (fun b9=>?_)
 refine jN 1 [5] (fun _=>[]) (fun _=>[]) (fun b10=>.blk b10 (aK { c with answer:=0 }) 53) (fun b10=>?_)
 refine jN 1 [6] (fun _=>[]) (fun _=>[]) (fun b11=>.blk b11 [vI 0,vI 0,vI 0,.string ⟨#[]⟩,.string ⟨#[]⟩,.slice none (0) (0),vI 0,vI 0,vI 0,vI 0,vI 0,vI 0,vI 0] 53) (fun b11=>?_)
 refine NS (jC 8 [] [(1,a_ 3 b10),(3,a_ 3 b10),(5,a_ 3 b10),(7,a_ 3 b10)] [(3,[(2,vI 0),(6,vI 0),(7,vI 0),(8,vI 0)])] ?_)
 refine NS (jC 3 [] [(2,A_ 3 b10 2)] [(3,[(9,vI 0),(10,vI 0)])] ?_)
 refine NS (jK 3 [19,21] [(0,A_ 1 b8 12),(2,a_ 2 b9)] ?_)
 refine gL [] ((pq Z Y hR hC c.handle).val (Yl _)) ?_
 rintro _ _ ⟨rfl,rfl⟩
 refine jK 5 [7,8] [] ?_
 refine NN (af.join (fun (x,a)=>(x=(mr Z c))/\(∀ z:Nat,x=.ok z->a=(z:Int))) (fun (x,a)=>[(3,vP b8),(5,vP b10),(6,vP b11),(7,vI (a)),(8,vI ((Vw x)))]) (fun (x,a)=>[.abs R,.blk b8 (rV Z Y) 42,.blk b9 (aK (cM { c with answer:=an } A cc)) 53,pC b10 { c with other:=0,mode:=0,uid:=0,gid:=0,sec:=0,nano:=0,answer:=0 },.blk b11 [vI 0,vI 0,vI 0,.string ⟨#[]⟩,.string ⟨#[]⟩,.slice none (0) (0),vI 0,vI 0,vI 0,vI 0,vI 0,vI 0,vI 0] 53]) ?_ ?_)
 ·rintro⟨x,a⟩ ⟨hx2,ha2⟩
  refine af.seq ?_
  subst hx2
  rcases LF hC c with ⟨e,hs,hse⟩|⟨k,hs,hk⟩
  ·refine af.region (sl 8 (.int .i64 ((Vw (mr Z c)))) (.int .i64 (e)) (by rw [hs];rfl) ?_)
   refine jC 3 [] [(2,a_ 3 b10)] [(3,[(11,vI (e))])] ?_
   refine NN (af.seq (SR (jK 2 [50] [(1,Iz ((e:Int)=(0:Int)) hse)] ?_)))
   refine NN (CT (SR (jC 2 [] [(0,A_ 3 b10 13),(1,A_ 4 b11 13)] [(4,[(0,vI (c.op)),(1,vI (c.handle)),(3,.string c.name),(4,.string c.text),(5,.slice c.dA (c.data.length) (c.dC)),(11,vI (e))])] ?_)))
   refine NN (af.ret (ai.aj ?_))
   exact rT (.agg ⟨aK { c with other:=0,mode:=0,uid:=0,gid:=0,sec:=0,nano:=0,code:=e,answer:=0 }⟩) [A_ 4 b11 13] [0] (⟨by rw [T5 hs];rfl,rfl⟩)
  refine af.region (sl 7 (.int .i64 (a)) (.int .i64 ↑k) (congrArg (Value.int .i64) (ha2 k hs)) ?_)
  refine sl 8 (.int .i64 ((Vw (mr Z c)))) (.int .i64 0) (by rw [hs];rfl) ?_
  refine jC 3 [] [(2,a_ 3 b10)] [(3,[(11,vI 0)])] ?_
  refine NN (af.seq (SR (jK 2 [50] [(1,p_ ⟨[],none,none,none,some (.bool false)⟩ [((.bool false:Value))=(.bool false)] ⟨rfl,trivial⟩)] ?_)))
  refine NN (CF (af.skip (NX (SR (jN 8 [11] (fun b12=>[(2,a_ 1 b8),(4,x_ k Z.ns.length (aB.hd hR.n (i:=k) (by omega))),(5,zP (eT Y.L k (nd Z.ns k)) (fun _ _ h=>aB.rd hR.n (by omega) h)),(7,A_ 5 b12 10)]) (fun _=>[]) (fun b12=>.blk b12 (eT Y.L k (nd Z.ns k)) 66) (fun b12=>?_))))))
  refine NS (jC 4 [] [(1,a_ 5 b12),(3,a_ 3 b10)] [(3,[(12,vI ((nd Z.ns k).id))])] ?_)
  refine NS (jC 4 [] [(1,a_ 5 b12),(3,a_ 3 b10)] [(3,[(2,vI ((nd Z.ns k).kind))])] ?_)
  refine NS (jC 4 [] [(1,a_ 5 b12),(3,a_ 3 b10)] [(3,[(6,vI ((nd Z.ns k).mode))])] ?_)
  refine NS (jC 4 [] [(1,a_ 5 b12),(3,a_ 3 b10)] [(3,[(7,vI ((nd Z.ns k).uid))])] ?_)
  refine NS (jC 4 [] [(1,a_ 5 b12),(3,a_ 3 b10)] [(3,[(8,vI ((nd Z.ns k).gid))])] ?_)
  refine NS (jC 4 [] [(1,A_ 5 b12 2),(3,A_ 3 b10 2)] [(3,[(9,vI ((nd Z.ns k).sec)),(10,vI ((nd Z.ns k).nano))])] ?_)
  refine NS (jC 2 [] [(0,A_ 3 b10 13),(1,A_ 4 b11 13)] [(4,[(0,vI (c.op)),(1,vI (c.handle)),(2,vI ((nd Z.ns k).kind)),(3,.string c.name),(4,.string c.text),(5,.slice c.dA (c.data.length) (c.dC)),(6,vI ((nd Z.ns k).mode)),(7,vI ((nd Z.ns k).uid)),(8,vI ((nd Z.ns k).gid)),(9,vI ((nd Z.ns k).sec)),(10,vI ((nd Z.ns k).nano)),(12,vI ((nd Z.ns k).id))])] ?_)
  refine NN (af.ret ?_)
  exact rT (.agg ⟨aK { c with other:=(nd Z.ns k).kind,mode:=(nd Z.ns k).mode,uid:=(nd Z.ns k).uid,gid:=(nd Z.ns k).gid,sec:=(nd Z.ns k).sec,nano:=(nd Z.ns k).nano,code:=0,answer:=(nd Z.ns k).id }⟩) [A_ 4 b11 13] [0] (⟨by rw [T6 hs];rfl,rfl⟩)
 refine SR (jK 3 [27] [(1,a_ 2 b9)] ?_)
 refine NN (cP ((c.op:Int)=(12:Int)) (fun IY=>?_) (fun IY=>?_))
 ·refine SR (jK 5 [29,31,33] [(0,A_ 1 b8 12),(2,a_ 2 b9),(4,a_ 2 b9)] ?_)
  rcases nM hC c.handle c.name 64 with ⟨e,h1,AZ⟩|⟨f,h1,hf⟩
  ·refine gL [] ((kU Z Y hR hC c.handle c.name hn 64).val (congrArg exV h1)) ?_
   rintro _ _ ⟨rfl,rfl⟩
   refine jK 5 [9,10] [] ?_
   refine NS (jK 2 [8] [] ?_)
   refine NS (jK 2 [39] [(1,wF ((e:Int)=(0:Int)) AZ)] ?_)
   refine NN (CF (af.skip ?_))
   exact mJ ((.error e:Except Int Nat),(Yk (eN Z c.handle))) [0,1,2,3,4] (⟨GY (by omega) h1,fun k e=>by cases e⟩)
  refine gL [] ((kU Z Y hR hC c.handle c.name hn 64).val (congrArg exV h1)) ?_
  rintro _ _ ⟨rfl,rfl⟩
  refine jK 5 [9,10] [] ?_
  refine NS (jK 2 [8] [] ?_)
  refine NS (jK 2 [39] [(1,p_ ⟨[],none,none,none,some (.bool true)⟩ [((.bool true:Value))=(.bool true)] ⟨rfl,trivial⟩)] ?_)
  refine NN (CT (SR (jK 4 [40,41,43] [(0,A_ 1 b8 12),(3,a_ 2 b9)] ?_)))
  rcases j6 Z.ns f c.name with hl|⟨k,hl,hk⟩
  ·refine gL [] ((iU Z Y hR hC f hf c.name).val (congrArg (Value.int .i64) hl)) ?_
   rintro _ _ ⟨rfl,rfl⟩
   refine jK 1 [7] [] ?_
   refine NS (jK 2 [46] [] ?_)
   refine NN (CT (af.region (jK 1 [8] [] ?_)))
   refine NL ?_
   exact mJ ((.error 170:Except Int Nat),(-1)) [0,1,2,3,4] (⟨EB (by omega) h1 hl,fun k e=>by cases e⟩)
  refine gL [] ((iU Z Y hR hC f hf c.name).val (congrArg (Value.int .i64) hl)) ?_
  rintro _ _ ⟨rfl,rfl⟩
  refine jK 1 [7] [] ?_
  refine NS (jK 2 [46] [(1,wF (((k:Int):Int) < (0:Int)))] ?_)
  refine NN (CF (af.skip ?_))
  exact mJ ((.ok k:Except Int Nat),(k:Int)) [0,1,2,3,4] (⟨EC (by omega) h1 hl,fun k e=>by cases e;rfl⟩)
 refine af.skip ?_
 exact mJ ((eN Z c.handle),(Yk (eN Z c.handle))) [0,1,2,3,4] (⟨EA (by omega),fun k e=>by rw [e];rfl⟩)
end
section
open Go.RowKit Go.Maps aX aq
section m
variable {ns:List aA} {es l:List cW} {name:ByteArray} {id z:Int} {i j d k:Nat} {R:RS} {x:cW}
theorem GZ:∀ {l:List cW},(∀ e∈l,eH e.name name)->ji name id l=l++[⟨name,id⟩]
  | [],_=>rfl
  | e::r,h=>by
    unfold ji
    rw [if_neg (fun q=>q (h e (List.mem_cons_self ..))),GZ (fun y hy=>h y (List.mem_cons_of_mem _ hy))];rfl
theorem ED:∀ {l:List cW},(∀ e∈l,eH e.name name)->¬ eH x.name name->ji name id (l++[x])=l++[⟨name,id⟩,x]
  | [],_,hx=>by show ji name id [x]=_;unfold ji;rw [if_pos hx];rfl
  | e::r,h,hx=>by
    show ji name id (e::(r++[x]))=_
    unfold ji
    rw [if_neg (fun q=>q (h e (List.mem_cons_self ..))),ED (fun y hy=>h y (List.mem_cons_of_mem _ hy)) hx];rfl
theorem G0:∀ {l:List cW},(∃ e∈l,¬ eH e.name name)->ji name id (l++[x])=ji name id l++[x]
  | [],h=>by obtain⟨_,h,_⟩:=h;cases h
  | e::r,h=>by
    show ji name id (e::(r++[x]))=ji name id (e::r)++[x]
    unfold ji
    by_cases he:¬ eH e.name name
    ·rw [if_pos he,if_pos he];rfl
    rw [if_neg he,if_neg he]
    obtain⟨y,hy,hny⟩:=h
    rcases List.mem_cons.1 hy with rfl|hy
    ·exact absurd hny he
    rw [G0 ⟨y,hy,hny⟩];rfl
theorem sQ (hj:j < es.length):es.take (j+1)=es.take j++[en es j]:=by
  rw [List.take_add_one,List.getElem?_eq_getElem hj]
  grind [en]
def dN (es:List cW) (name:ByteArray) (id:Int) (j:Nat) (put:Bool) (out:List cW):Prop:=
  (put=false/\out=es.take j/\∀ e∈es.take j,eH e.name name)\/(put=true/\out=ji name id (es.take j)/\∃ e∈es.take j,¬ eH e.name name)
theorem dN.start:dN es name id 0 false []:=.inl ⟨rfl,rfl,fun e he=>by cases he⟩
theorem dN.put (h:dN es name id j false l) (hj:j < es.length) (hx:¬ eH (en es j).name name):dN es name id (j+1) true (l++[⟨name,id⟩]++[en es j]):=by
  grind [en,sQ,ED,dN,eH]
theorem dN.more (h:dN es name id j true l) (hj:j < es.length):dN es name id (j+1) true (l++[en es j]):=by
  grind [sQ,G0,dN,en]
theorem dN.miss (h:dN es name id j false l) (hj:j < es.length) (hx:eH (en es j).name name):dN es name id (j+1) false (l++[en es j]):=by
  grind [sQ,dN,eH,en]
theorem dN.last (h:dN es name id es.length false l):l++[⟨name,id⟩]=ji name id es:=by
  grind [GZ,dN,ji]
theorem dN.end_ (h:dN es name id es.length true l):l=ji name id es:=by
  grind [dN,ji]
theorem dN.len {b:Bool} (h:dN es name id j b l) (hj:j<=es.length):l.length<=j+1:=by
  have hl:∀ q:List cW,(ji name id q).length=q.length+1:=fun q=>by
    induction q with
    | nil=>rfl
    | cons e r ih=>
      grind [ji]
  grind [dN]
theorem HV (hj:j < es.length) (h:(en es j).name=name):ol name (es.take j)=ol name (es.take (j+1)):=by
  grind [ol,sQ]
theorem FO (hj:j < es.length) (h:¬ (en es j).name=name):ol name (es.take j)++[en es j]=ol name (es.take (j+1)):=by
  grind [ol,sQ]
theorem FP:∀ (l:List cW) (z:Int),nB name (l++[x]) z=if x.name=name then x.id else nB name l z
  | [],z=>rfl
  | e::r,z=>by
    show nB name (r++[x]) _=_
    rw [FP r]
    split<;>rfl
theorem WV (hj:j < es.length) (h:(en es j).name=name):(en es j).id=nB name (es.take (j+1)) z:=by rw [sQ hj,FP,if_pos h]
theorem T9 (hj:j < es.length) (h:¬ (en es j).name=name):nB name (es.take j) z=nB name (es.take (j+1)) z:=by rw [sQ hj,FP,if_neg h]
theorem Ua:(ol name (es.take j)).length<=j:=Nat.le_trans (List.length_filter_le ..) (by rw [List.length_take];omega)
theorem qN (hj:j < ns.length):ns.take (j+1)=ns.take j++[nd ns j]:=by
  rw [List.take_add_one,List.getElem?_eq_getElem hj]
  grind [nd]
def p8 (R:RS) (i:Nat):List aA:=(R.ns.take i).filter (om R)
def lM (R:RS) (i:Nat):List Int:=((p8 R i).filter (fun n=>decide (n.id∈R.gone))).map aA.id
theorem wM (hi:i < R.ns.length) (h:om R (nd R.ns i)=true):p8 R (i+1)=p8 R i++[nd R.ns i]:=by
  grind [p8,qN]
theorem J2 (hi:i < R.ns.length) (h:¬ om R (nd R.ns i)=true):p8 R (i+1)=p8 R i:=by
  grind [p8,qN]
theorem G3 (hi:i < R.ns.length) (h:om R (nd R.ns i)=true) (hg:(nd R.ns i).id∈R.gone):lM R (i+1)=lM R i++[(nd R.ns i).id]:=by
  unfold lM;rw [wM hi h,List.filter_append,List.map_append];simp [hg]
theorem J3 (hi:i < R.ns.length) (h:om R (nd R.ns i)=true) (hg:¬ (nd R.ns i).id∈R.gone):lM R (i+1)=lM R i:=by
  grind [lM,wM]
theorem Oc (hi:i < R.ns.length) (h:¬ om R (nd R.ns i)=true):lM R (i+1)=lM R i:=by
  unfold lM;rw [J2 hi h]
theorem Dj {n:aA}:om R n=true↔(n.id∈R.gone->n.id∈gn R.us):=by unfold om;exact decide_eq_true_iff
theorem G4:dx R={ R with ns:=p8 R R.ns.length,gone:=lM R R.ns.length }:=by
  unfold dx lM p8
  rw [List.take_length]
theorem G5:(p8 R i).length<=i:=Nat.le_trans (List.length_filter_le ..) (by rw [List.length_take];omega)
theorem QE:(lM R i).length<=i:=by
  grind [lM,G5]
end m
end
section
open Go.RowKit Go.Maps aX aq
section fl
theorem G6 {α:Type} {f g:Nat->α->List Value} {s:Nat} (hf:∀ i a,(f i a).length=s) (hg:∀ i a,(g i a).length=s):∀ (xs:List α) (b k j:Nat) (a:α) (u:Value),k < xs.length->j < s →
    (∀ i,i≠k->∀ x,xs[i]?=some x->g (b+i) x=f (b+i) x)->(∀ x,xs[k]?=some x->g (b+k) a=(f (b+k) x).set j u)->(eY f b xs).set (k * s+j) u=eY g b (xs.set k a)
  | [],_,k,_,_,_,h,_,_,_=>absurd h (Nat.not_lt_zero k)
  | x::r,b,0,j,a,u,_,hj,h1,h2=>by
    rw [eY,List.set_cons_zero,eY,Nat.zero_mul,Nat.zero_add,List.set_append_left _ _ (by rw [hf];exact hj)]
    have e:=h2 x rfl
    rw [Nat.add_zero] at e
    rw [e]
    congr 1
    exact xj _ _ (fun i a hi=>by
      have:=h1 (i+1) (by omega) a (by simpa using hi)
      rw [show b+1+i=b+(i+1) by omega]
      exact this.symm)
  | x::r,b,k+1,j,a,u,h,hj,h1,h2=>by
    rw [eY,List.set_cons_succ,eY,List.set_append_right _ _ (by rw [hf,Nat.add_mul];omega),hf]
    have e0:=h1 0 (by omega) x rfl
    rw [Nat.add_zero] at e0
    rw [e0,show (k+1) * s+j - s=k * s+j by rw [Nat.add_mul];omega]
    congr 1
    refine G6 hf hg r (b+1) k j a u (by simpa using h) hj (fun i hi y hy=>?_) (fun y hy=>?_)
    ·rw [show b+1+i=b+(i+1) by omega];exact h1 (i+1) (by omega) y (by simpa using hy)
    rw [show b+1+k=b+(k+1) by omega];exact h2 y (by simpa using hy)
end fl
section st
variable {P:Program} {β:Bs} {N:dm} {ops:Array Oper} {k:Nat} {fr:Fr} {hps:List HP} {Q:Post} {d:Option Tmp}
theorem ak.WW (i j:Nat) {T e:TypeId} {size n cap g:Nat} {xs:List Value} {u u2:Value} {a y:Operand} (hop:∀ junk,fA N junk ops fr k=some (.store T a y,d)) (hp:hps[i]?=some (.abs (ay e size (some ⟨g,0,none⟩) n cap xs)))
    (ha:∀ junk,cQ N fr junk a=.pointer (some ⟨g,j,none⟩)) (hy:∀ junk,cQ N fr junk y=.agg #[u,u2]) (hT:(P.info? T).map (·.size)=some 2) (hu:u.oneCell'=true) (G7:u2.oneCell'=true) (hj:j+1 < xs.length)
    (K':ak P β N ops (k+1) (cL fr d undef) (hps.set i (.abs (ay e size (some ⟨g,0,none⟩) n cap ((xs.set j u).set (j+1) u2)))) Q):ak P β N ops k fr hps Q:=by
  refine ak.jI hop (fun o junk w ho hS=>?_) K'
  have rX:j < xs.length:=by omega
  have hi:=bR hp
  have qg:=hS.set hp (xh (u:=u) rX)
  have hp2:(hps.set i (.abs (ay e size (some ⟨g,0,none⟩) n cap (xs.set j u))))[i]?=some (.abs (ay e size (some ⟨g,0,none⟩) n cap (xs.set j u))):=List.getElem?_set_self hi
  have hS3:=qg.set hp2 (xh (u:=u2) (by rw [List.length_set];exact hj))
  rw [List.set_set] at hS3
  refine⟨_,.inr ⟨rfl,?_⟩,hS3⟩
  have key:∀ (w:World) (l:List HP) (ys:List Value) (q:Nat),Sat β l w->l[i]?=some (.abs (ay e size (some ⟨g,0,none⟩) n cap ys))->q < ys.length->(∃ x,w.cell? ⟨g,q,none⟩=some x)/\w.frozen? ⟨g,q,none⟩=false:=fun w l ys q hS hp hq=>by
    obtain⟨F,hF⟩:=hS.get hp
    obtain⟨x,hx⟩:=jq hq
    refine⟨⟨x,ay.cell hx F w hF⟩,?_⟩
    obtain⟨⟨_,h2⟩,_⟩:=hF
    rcases h2 with ⟨e,_⟩|⟨g',cp,cur,e,_,hb,_⟩
    ·cases e
    cases e;simp [World.frozen?,hb]
  obtain⟨⟨x1,hc1⟩,hf1⟩:=key w hps xs j hS hp rX
  obtain⟨⟨x2,hc2⟩,hf2⟩:=key _ _ _ (j+1) qg hp2 (by rw [List.length_set];exact hj)
  obtain⟨inf,hi,hsz⟩:∃ inf,P.info? T=some inf/\inf.size=2:=by
    cases h:P.info? T with
    | none=>rw [h] at hT;cases hT
    | some inf=>rw [h] at hT;exact⟨inf,rfl,by simpa using hT⟩
  have h3:=oB hi w
  rw [hsz] at h3
  obtain⟨dst,op,type,pos,after,guard⟩:=o
  cases ho
  have st:∀ (u x:Value) (a:Addr) (w:World),u.oneCell'=true->w.cell? a=some x->w.frozen? a=false->Sem.run P (Sem.store Mode.plain a u (Sem.pure ())) w=.ok () (w.setCell a u):=fun u x a w hu hc hf=>by
    cases u<;>first
      | (simp [Value.oneCell'] at hu;done)
      | simp [Sem.run,hc,hf]
  simp only [execOp,ha junk,hy junk]
  simp [go_sem,Instr.storeAt,Instr.sureAddr,storeVar,h3,Value.cells,storeCells,store,Addr.add,st u x1 _ _ hu hc1 hf1,st u2 x2 _ _ G7 hc2 hf2]
theorem ak.uW (i j:Nat) {T e:TypeId} {size n cap:Nat} {A:Option Addr} {xs:List Value} {u:Value} {a y:Operand} (hop:∀ junk,fA N junk ops fr k=some (.store T a y,d)) (hp:hps[i]?=some (.abs (ay e size A n cap xs)))
    (ha:∀ junk,cQ N fr junk a=.pointer (some ⟨aP A,aO A+j,none⟩)) (hy:∀ junk,cQ N fr junk y=u) (hT:(P.info? T).map (·.size)=some 1) (hu:u.oneCell'=true) (hn:0 < n) (hj:j < xs.length)
    (K':ak P β N ops (k+1) (cL fr d undef) (hps.set i (.abs (ay e size A n cap (xs.set j u)))) Q):ak P β N ops k fr hps Q:=by
  refine ak.tell (p:=∃ g,A=some ⟨g,0,none⟩) (fun _ hS=>let ⟨_,h⟩:=hS.get hp;ay.head h hn) ?_
  rintro⟨g,rfl⟩
  exact ak.DL i j hop hp (fun junk=>(ha junk).trans (congrArg (fun o=>Value.pointer (some ⟨g,o,none⟩)) (Nat.zero_add j))) hy hT hu hj K'
theorem ak.yO (i j:Nat) {T e:TypeId} {size n cap:Nat} {A:Option Addr} {xs:List Value} {u u2:Value} {a y:Operand} (hop:∀ junk,fA N junk ops fr k=some (.store T a y,d)) (hp:hps[i]?=some (.abs (ay e size A n cap xs)))
    (ha:∀ junk,cQ N fr junk a=.pointer (some ⟨aP A,aO A+j,none⟩)) (hy:∀ junk,cQ N fr junk y=.agg #[u,u2]) (hT:(P.info? T).map (·.size)=some 2) (hu:u.oneCell'=true) (G7:u2.oneCell'=true) (hn:0 < n) (hj:j+1 < xs.length)
    (K':ak P β N ops (k+1) (cL fr d undef) (hps.set i (.abs (ay e size A n cap ((xs.set j u).set (j+1) u2)))) Q):ak P β N ops k fr hps Q:=by
  refine ak.tell (p:=∃ g,A=some ⟨g,0,none⟩) (fun _ hS=>let ⟨_,h⟩:=hS.get hp;ay.head h hn) ?_
  rintro⟨g,rfl⟩
  exact ak.WW i j hop hp (fun junk=>(ha junk).trans (congrArg (fun o=>Value.pointer (some ⟨g,o,none⟩)) (Nat.zero_add j))) hy hT hu G7 hj K'
theorem ak.qG (i:Nat) {e:TypeId} {size n cap:Nat} {A:Option Addr} {xs:List Value} (hp:hps[i]?=some (.abs (ay e size A n cap xs))) (hn:0 < n) (K:A=some ⟨aP A,aO A,none⟩->ak P β N ops k fr hps Q):ak P β N ops k fr hps Q:=
  ak.tell (fun _ hS=>let ⟨_,h⟩:=hS.get hp;(ay.DK h hn).1) K
end st
theorem Yn (x y:ByteArray):Value.bool (!(Op.bytesLess x.toList y.toList || (x.toList == y.toList)))=Value.bool (!(decide (eH x y))):=congrArg (fun v=>match v with|Value.bool b=>Value.bool (!b)|v=>v) (I6 x y)
theorem dN.keep {es l:List cW} {name:ByteArray} {id:Int} {j:Nat} {p:Bool} (h:dN es name id j p l) (hj:j < es.length) (hx:p=false->eH (en es j).name name):dN es name id (j+1) p (l++[en es j]):=by
  cases p with
  | true=>exact h.more hj
  | false=>exact h.miss hj (hx rfl)
theorem yP {q:List cW} {e:cW} {B:Option Addr} {c:Nat}:HP.abs (ay 68 2 B (q.length+1) c (jt q++[.string e.name,.int .i64 e.id]))=HP.abs (ay 68 2 B (q++[e]).length c (jt (q++[e]))):=by
  rw [Eo,List.length_append];rfl
theorem kq {α:Type} {q:List α} {e:α}:q.length+1=(q++[e]).length:=by rw [List.length_append];rfl
section o
variable {P:Program} {β β':Bs} {R:RS} {Y:RL} {f:FuncId} {args:Array Value} {x u:Value} {d k i j:Nat} {ns:List aA} {L L':Lay} {n:aA} {es:List cW} {B:Option Addr} {c:Nat}
theorem oo (hk:k < ns.length) (hj:j < 10) (hL:∀ i,i≠k->∀ x,eT L' i x=eT L i x) (h:eT L' k n=(eT L k (nd ns k)).set j u):(aR L ns).set (k * 10+j) u=aR L' (ns.set k n):=by
  refine G6 (s:=10) (fun _ _=>rfl) (fun _ _=>rfl) ns 0 k j _ _ hk hj (fun i hi x _=>?_) (fun x hx=>?_)
  all_goals grind [nd]
theorem Od (hk:k < ns.length) {v:Value} (hv:(eT L k (nd ns k))[j]?=some v):(aR L ns)[k * 10+j]?=some v:=by
  have hj:j < 10:=bR hv
  have h1:=qU (f:=eT L) (s:=10) (fun _ _=>rfl) ns 0 k j _ (getD_some (x:=default) hk) hj
  rw [Nat.zero_add] at h1
  exact h1.trans hv
theorem mw (hk:k < ns.length):nd (ns.set k n) i=if i=k then n else nd ns i:=by
  grind [nd]
def Lay.ent (L:Lay) (k:Nat) (B:Option Addr) (c:Nat):Lay:=⟨L.dA,fun i=>if i=k then B else L.eA i,L.dC,fun i=>if i=k then c else L.eC i⟩
def Lay.dat (L:Lay) (k:Nat) (B:Option Addr) (c:Nat):Lay:=⟨fun i=>if i=k then B else L.dA i,L.eA,fun i=>if i=k then c else L.dC i,L.eC⟩
structure jW (β:Bs) (R:RS) (L:Lay) (H V:Option Addr):Prop where
  data:∀ i,i < R.ns.length->aZ β (L.dA i) (nd R.ns i).data
  ah:∀ i,i < R.ns.length->bg β (L.eA i) (nd R.ns i).ah
  h:bT β H (ints (keys R.us))
  v:bT β V (ints (gn R.us))
theorem jW.le {H V:Option Addr} (h:jW β R L H V) (hle:β.le β'):jW β' R L H V:=⟨fun i hi=>(h.data i hi).le hle,fun i hi=>(h.ah i hi).le hle,h.h.le hle,h.v.le hle⟩
theorem jW.at {A G H V:Option Addr} {c cg ch cv:Nat} (h:jW β R L H V) (g:nU β [.abs (ay 66 10 A R.ns.length c (aR L R.ns)),.abs (ay 3 1 G R.gone.length cg (ints R.gone))] β'):cD β' R ⟨A,c,L,G,cg,H,ch,V,cv⟩:=by
  obtain⟨F,h1,h2⟩:=g.get 0 rfl
  obtain⟨G,g1,g2⟩:=g.get 1 rfl
  have h':=h.le g.le
  exact⟨⟨bT.gu g1 g2 rfl,h'.h,h'.v⟩,bT.gu h1 h2 rfl,h'.data,h'.ah⟩
theorem cV {A G H V:Option Addr} {c cg ch cv:Nat} (h:jW β R L H V) (hs:∀ β',β.le β'->cD β' R ⟨A,c,L,G,cg,H,ch,V,cv⟩->Spec P β' f args [] (fun v l=>v=x/\l=[])) :
    Spec P β f args [.abs (ay 66 10 A R.ns.length c (aR L R.ns)),.abs (ay 3 1 G R.gone.length cg (ints R.gone))] (fun v l=>v=x/\l=[.abs (ay 66 10 A R.ns.length c (aR L R.ns)),.abs (ay 3 1 G R.gone.length cg (ints R.gone))]):=
  (Spec.t8 (pre:=[]) (R:=[.abs (ay 66 10 A R.ns.length c (aR L R.ns)),.abs (ay 3 1 G R.gone.length cg (ints R.gone))]) (fun β' g=>hs β' g.le (h.at g))).mono (by rintro v l ⟨l0,⟨rfl,rfl⟩,rfl⟩;exact⟨rfl,rfl⟩)
theorem nA (ns:List aA) (L:Lay) (A:Option Addr) (cap i j:Nat) (hi:i < ns.length) {v:Value} (hv:(eT L i (nd ns i))[j]?=some v):∀ F w,(ay 66 10 A ns.length cap (aR L ns)).h F w->w.cell? ⟨aP A,aO A+i * 10+j,none⟩=some v:=ay.cellAt hi (Od hi hv)
theorem LG (hk:k < ns.length):(aR L ns).set (k * 10+9) (.slice B es.length c)=aR (L.ent k B c) (ns.set k { nd ns k with ah:=es }):=
  oo hk (by decide) (fun i hi x=>by unfold eT Lay.ent;simp [hi]) (by unfold eT Lay.ent;simp)
theorem Oe (hk:k < ns.length) {bs:List UInt8}:(aR L ns).set (k * 10+7) (.slice B bs.length c)=aR (L.dat k B c) (ns.set k { nd ns k with data:=bs }):=
  oo hk (by decide) (fun i hi x=>by unfold eT Lay.dat;simp [hi]) (by unfold eT Lay.dat;simp)
theorem xB (hk:k < ns.length) {s z:Int}:((aR L ns).set (k * 10+5) (.int .i64 s)).set (k * 10+5+1) (.int .i64 z)=aR L (ns.set k { nd ns k with sec:=s,nano:=z }):=by
  rw [oo (n:={ nd ns k with sec:=s }) hk (by decide) (fun _ _ _=>rfl) rfl]
  have:=oo (ns:=ns.set k { nd ns k with sec:=s }) (L:=L) (L':=L) (k:=k) (j:=6) (n:={ nd ns k with sec:=s,nano:=z }) (u:=.int .i64 z) (by rw [List.length_set];exact hk) (by decide) (fun _ _ _=>rfl) (by rw [mw hk,if_pos rfl];rfl)
  rw [List.set_set] at this
  exact this
theorem LH (hk:k < ns.length) {s z:Int}:(((aR L ns).set (k * 10+9) (.slice B es.length c)).set (k * 10+5) (.int .i64 s)).set (k * 10+5+1) (.int .i64 z)=aR (L.ent k B c) (jO s z ns k es):=by
  rw [LG hk,xB (by rw [List.length_set];exact hk),mw hk,if_pos rfl,List.set_set];rfl
theorem vQ {s z:Int}:(jO s z ns k es).length=ns.length:=List.length_set ..
theorem MH {s z:Int} (hk:k < ns.length):nd (jO s z ns k es) i=if i=k then { nd ns k with ah:=es,sec:=s,nano:=z } else nd ns i:=mw hk
theorem MI {A:Option Addr} {cN:Nat} {ns':List aA} {s z:Int} (hk:k < ns.length) (h:ns'=jO s z ns k es) :
    HP.abs (ay 66 10 A ns.length cN ((((aR L ns).set (k * 10+9) (.slice B es.length c)).set (k * 10+5) (.int .i64 s)).set (k * 10+5+1) (.int .i64 z)))=HP.abs (ay 66 10 A ns'.length cN (aR (L.ent k B c) ns')):=by
  rw [LH hk,h,vQ]
theorem jW.jO {H V:Option Addr} (h:jW β R L H V) (hk:k < R.ns.length) (he:bg β B es) {R':RS} (hn:R'.ns=jO R.cS R.cZ R.ns k es) (hu:R'.us=R.us):jW β R' (L.ent k B c) H V:=by
  refine⟨fun i hi=>?_,fun i hi=>?_,by rw [hu];exact h.h,by rw [hu];exact h.v⟩
  ·rw [hn,vQ] at hi
   rw [hn,MH hk]
   by_cases e:i=k
   ·rw [if_pos e];subst e;exact h.data i hi
   rw [if_neg e];exact h.data i hi
  rw [hn,vQ] at hi
  rw [hn,MH hk]
  show bg β (if i=k then B else L.eA i) _
  by_cases e:i=k
  ·rw [if_pos e,if_pos e];exact he
  rw [if_neg e,if_neg e];exact h.ah i hi
theorem FQ {name:ByteArray} {id:Int}:(bD R d name id).ns.length=R.ns.length:=List.length_set ..
theorem q4 {name:ByteArray} {b:Bool}:(bA R d name b).ns.length=R.ns.length:=List.length_set ..
theorem aa8 {L:Lay} {F:Fp} {w:World} {m:Nat} (h:(HP.abs (jd (og ns L) m)).h F w) (h1:∀ k,F k->β'.O k) (h2:β'.w0=w):∀ i,i < m->bg β' (L.eA i) (nd ns i).ah:=
  jd.base h h1 h2 (Φ:=fun i b=>bg b (L.eA i) (nd ns i).ah) (fun i _ F hF hO=>bT.gu (show (HP.abs (ay 68 2 (L.eA i) (nd ns i).ah.length (L.eC i) (jt (nd ns i).ah))).h F _ from hF) hO h2)
theorem aa9 {L:Lay} {F:Fp} {w:World} {m:Nat} (h:(HP.abs (jd (jL ns L) m)).h F w) (h1:∀ k,F k->β'.O k) (h2:β'.w0=w):∀ i,i < m->aZ β' (L.dA i) (nd ns i).data:=
  jd.base h h1 h2 (Φ:=fun i b=>aZ b (L.dA i) (nd ns i).data) (fun i _ F hF hO=>bT.gu (show (HP.abs (ay 5 1 (L.dA i) (nd ns i).data.length (L.dC i) (cE (nd ns i).data))).h F _ from hF) hO h2)
theorem J4:∀ m,i < m->(nd ns i).data.length<=cK ns m
  | 0,h=>absurd h (Nat.not_lt_zero _)
  | m+1,h=>by
    show _<=cK ns m+(nd ns m).data.length
    by_cases e:i=m
    ·subst e;omega
    have:=J4 m (by omega);omega
theorem RB.hd (h:RB R):∀ i,i < R.ns.length->(nd R.ns i).data.length<=140737488355328/\(nd R.ns i).ah.length<=1048576:=fun i hi=>⟨Nat.le_trans (J4 _ hi) h.dat,Nat.le_trans (h.row hi) (by decide)⟩
structure RD (q:Nat) (R:RS):Prop where
  ns:R.ns.length<=4097
  gone:R.gone.length<=4096+q
  us:R.us.length<=1024
  ah:bJ R.ns R.ns.length<=8192+q
  dat:cK R.ns R.ns.length<=140737488355328
theorem RD.rb {q:Nat} (h:RD q R) (hq:q<=8):RB R:=⟨h.ns,by have:=h.gone;omega,h.us,by have:=h.ah;omega,h.dat⟩
theorem RD.up {q m:Nat} (h:RD q R) (hm:q<=m):RD m R:=⟨h.ns,by have:=h.gone;omega,h.us,by have:=h.ah;omega,h.dat⟩
theorem EF (hk:k < ns.length):∀ m:Nat,bJ (ns.set k n) m+(if k < m then (nd ns k).ah.length else 0)=bJ ns m+(if k < m then n.ah.length else 0)
  | 0=>rfl
  | m+1=>by
    have h:=EF hk m
    show bJ (ns.set k n) m+(nd (ns.set k n) m).ah.length+_=bJ ns m+(nd ns m).ah.length+_
    rw [mw hk]
    by_cases e:m=k
    ·subst e
     rw [if_neg (Nat.lt_irrefl _),if_neg (Nat.lt_irrefl _)] at h
     rw [if_pos rfl,if_pos (Nat.lt_succ_self _),if_pos (Nat.lt_succ_self _)]
     omega
    rw [if_neg e]
    by_cases e2:k < m
    ·rw [if_pos e2,if_pos e2] at h;rw [if_pos (by omega),if_pos (by omega)];omega
    rw [if_neg e2,if_neg e2] at h;rw [if_neg (by omega),if_neg (by omega)];omega
theorem EG (hk:k < ns.length):∀ m:Nat,cK (ns.set k n) m+(if k < m then (nd ns k).data.length else 0)=cK ns m+(if k < m then n.data.length else 0)
  | 0=>rfl
  | m+1=>by
    have h:=EG hk m
    show cK (ns.set k n) m+(nd (ns.set k n) m).data.length+_=cK ns m+(nd ns m).data.length+_
    rw [mw hk]
    by_cases e:m=k
    ·subst e
     rw [if_neg (Nat.lt_irrefl _),if_neg (Nat.lt_irrefl _)] at h
     rw [if_pos rfl,if_pos (Nat.lt_succ_self _),if_pos (Nat.lt_succ_self _)]
     omega
    rw [if_neg e]
    by_cases e2:k < m
    ·rw [if_pos e2,if_pos e2] at h;rw [if_pos (by omega),if_pos (by omega)];omega
    rw [if_neg e2,if_neg e2] at h;rw [if_neg (by omega),if_neg (by omega)];omega
theorem QF {s z:Int} (hk:k < ns.length) (he:es.length<=(nd ns k).ah.length+1):bJ (jO s z ns k es) (jO s z ns k es).length<=bJ ns ns.length+1/\cK (jO s z ns k es) (jO s z ns k es).length=cK ns ns.length:=by
  grind [vQ,EF,nd,EG,jO]
theorem RD.jO {q:Nat} (h:RD q R) (hk:k < R.ns.length) (he:es.length<=(nd R.ns k).ah.length+1) {R':RS} (hn:R'.ns=jO R.cS R.cZ R.ns k es) (hu:R'.us=R.us) (hg:R'.gone.length<=R.gone.length+1):RD (q+1) R':=by
  have h1:=QF (s:=R.cS) (z:=R.cZ) hk he
  have h2:R'.ns.length=R.ns.length:=by rw [hn,vQ]
  refine⟨by rw [h2];exact h.ns,by have:=h.gone;omega,by rw [hu];exact h.us,?_,?_⟩
  ·rw [hn];have:=h.ah;omega
  rw [hn];have:=h.dat;omega
def yQ (R:RS) (d:Nat) (name:ByteArray):RS:={ R with ns:=jO R.cS R.cZ R.ns d (ol name (nd R.ns d).ah) }
theorem WX {name:ByteArray}:(yQ R d name).ns.length=R.ns.length:=List.length_set ..
theorem MJ {name:ByteArray} {b:Bool} (hf:b=true) (h:qy (yQ R d name).ns (nB name (nd R.ns d).ah 0)=0):(bA R d name b).gone=R.gone++[nB name (nd R.ns d).ah 0]:=if_pos ⟨hf,h⟩
theorem EH {name:ByteArray} {b:Bool} (h:b=true->¬ qy (yQ R d name).ns (nB name (nd R.ns d).ah 0)=0):(bA R d name b).gone=R.gone:=if_neg (fun q=>h q.1 q.2)
theorem QG {name:ByteArray}:(ol name es).length<=es.length:=List.length_filter_le ..
theorem RD.del {q:Nat} {name:ByteArray} (h:RD q R) (hk:d < R.ns.length):RD (q+1) (yQ R d name):=h.jO hk (Nat.le_succ_of_le QG) rfl rfl (Nat.le_succ _)
theorem RD.MK {q:Nat} {name:ByteArray} {b:Bool} (h:RD q R) (hk:d < R.ns.length):RD (q+1) (bA R d name b):=by
  refine h.jO hk (Nat.le_succ_of_le QG) rfl rfl ?_
  grind [bA]
theorem ML {name:ByteArray} {id:Int}:∀ l:List cW,(ji name id l).length=l.length+1
  | []=>rfl
  | e::r=>by
    unfold ji
    split
    ·rfl
    rw [List.length_cons,ML r];rfl
theorem RD.ent {q:Nat} {name:ByteArray} {id:Int} (h:RD q R) (hk:d < R.ns.length):RD (q+1) (bD R d name id):=h.jO hk (Nat.le_of_eq (ML _)) rfl rfl (Nat.le_succ _)
theorem A6 {q:List Int} {z:Int} {B:Option Addr} {c:Nat}:HP.abs (ay 3 1 B (q.length+1) c (ints q++[.int .i64 z]))=HP.abs (ay 3 1 B (q++[z]).length c (ints (q++[z]))):=by
  rw [Cq,List.length_append];rfl
theorem J5 (l:List Int):∀ u∈ints l,u.oneCell'=true:=by
  intro u hu
  obtain⟨b,_,rfl⟩:=List.mem_map.1 hu
  rfl
theorem jW.same {H V:Option Addr} (h:jW β R L H V) {R':RS} (hn:R'.ns=R.ns) (hu:R'.us=R.us):jW β R' L H V:=⟨by rw [hn];exact h.data,by rw [hn];exact h.ah,by rw [hu];exact h.h,by rw [hu];exact h.v⟩
theorem jW.snoc {H V:Option Addr} (h:jW β R L H V) {R':RS} (hn:R'.ns=R.ns++[n]) (hd:n.data=[]) (he:n.ah=[]) (hu:R'.us=R.us):jW β R' (L.put R.ns.length none 0 none 0) H V:=by
  have h0:∀ {xs:List Value},xs=[]->bT β none xs:=fun e j v hj=>by rw [e] at hj;cases hj
  have hl:R'.ns.length=R.ns.length+1:=by rw [hn,List.length_append];rfl
  refine⟨fun i hi=>?_,fun i hi=>?_,by rw [hu];exact h.h,by rw [hu];exact h.v⟩
  ·rw [hn]
   show aZ β (if i=R.ns.length then none else L.dA i) _
   by_cases e:i=R.ns.length
   ·subst e;rw [if_pos rfl,sJ,hd];exact h0 rfl
   rw [if_neg e,uT (by omega)];exact h.data i (by omega)
  rw [hn]
  show bg β (if i=R.ns.length then none else L.eA i) _
  by_cases e:i=R.ns.length
  ·subst e;rw [if_pos rfl,sJ,he];exact h0 rfl
  rw [if_neg e,uT (by omega)];exact h.ah i (by omega)
theorem RD.last {q:Nat} (h:RD q R) (z:Int):RD q { R with last:=z }:=⟨h.ns,h.gone,h.us,h.ah,h.dat⟩
theorem J6 (h:(R.us.length:Int) < R.cH):iF R k=({ R with us:=ins (least R.us) (nd R.ns k).id R.us,av:=max R.av ((R.us.length:Int)+1) },least R.us,0):=if_pos h
theorem MN (h:¬ (R.us.length:Int) < R.cH):iF R k=(R,0,130):=if_neg h
structure RU (R:RS):Prop where
  us:R.us.length<=1024
  usr:aq.bH (keys R.us)
  tM:∀ z∈keys R.us,1<=z
theorem RC.ru (h:RC R):RU R:=⟨h.us,h.usr,h.tM⟩
theorem RU.same {R':RS} (h:RU R) (hu:R'.us=R.us):RU R':=⟨by rw [hu];exact h.us,by rw [hu];exact h.usr,by rw [hu];exact h.tM⟩
theorem abb {z:Int}:z∈gn R.us↔∃ q,q < R.us.length/\(gn R.us).getD q 0=z:=by
  have hl:=jo R.us
  refine⟨fun h=>?_,fun ⟨q,h1,h2⟩=>h2 ▸ wG (by omega)⟩
  obtain⟨q,hq,e⟩:=List.getElem_of_mem h
  exact⟨q,by omega,by rw [List.getD_eq_getElem?_getD,List.getElem?_eq_getElem hq,e];rfl⟩
theorem J7 {p:List aA} (h:p=p8 R R.ns.length):(dx R).ns=p:=by rw [G4,h]
theorem EI {l:List Int} (h:l=lM R R.ns.length):(dx R).gone=l:=by rw [G4,h]
theorem Ub {An Ag:Option Addr} {cn cg:Nat} {p:List aA} {l:List Int} {K:Lay} (hR:cD β R Y) (hN:bT β An (aR K p)) (hG:bT β Ag (ints l)) (hp:p=p8 R R.ns.length) (hl:l=lM R R.ns.length) (hK:kA β p p.length K):cD β (dx R) ⟨An,cn,K,Ag,cg,Y.H,Y.ch,Y.V,Y.cv⟩:=by
  have e1:=J7 hp
  have e2:=EI hl
  refine⟨⟨by rw [e2];exact hG,hR.h,hR.v⟩,⟨by rw [e1];exact hN,by rw [e1];exact hK.data,by rw [e1];exact hK.ah⟩⟩
theorem kA.snoc {p:List aA} {K:Lay} {dA eA:Option Addr} {dC eC:Nat} (h:kA β p p.length K) (hd:aZ β dA n.data) (he:bg β eA n.ah):kA β (p++[n]) (p++[n]).length (K.put p.length dA dC eA eC):=by
  have e:(p++[n]).length=p.length+1:=by rw [List.length_append];rfl
  rw [e]
  refine kA.put (k:=p.length) ⟨fun i hi=>?_,fun i hi=>?_⟩ (by rw [sJ];exact hd) (by rw [sJ];exact he)
  ·rw [uT hi];exact h.data i hi
  rw [uT hi];exact h.ah i hi
theorem Dk {p:List aA} {K:Lay} {dA eA A:Option Addr} {dC eC cN:Nat} {dn en:Nat} (hd:n.data.length=dn) (he:n.ah.length=en) :
    HP.abs (ay 66 10 A (p.length+1) cN (aR K p++[.int .i64 n.id,.int .i64 n.kind,.int .i64 n.mode,.int .i64 n.uid,.int .i64 n.gid,.int .i64 n.sec,.int .i64 n.nano,.slice dA dn dC,.string n.target,.slice eA en eC]))=HP.abs (ay 66 10 A (p++[n]).length cN (aR (K.put p.length dA dC eA eC) (p++[n]))):=by
  grind [rK]
end o
end
section
open Go.RowKit
section order
variable {P:Program} {ops:Array Oper} {Q Q':Post} {n:Nat} {S:World->Prop}
inductive vR
  | one (i:Nat)
  | two (i j:Nat)
  | three (i k j:Nat)
  | perm (G:List Nat)
  | beside (c:List Nat) (j:Nat)
def J8 (P:Program) (ops:Array Oper) (Q:Post) (S:World->Prop) (K:Act->World->Prop):Nat->List Nat->Act->World->Prop
  | 0,_,a,w=>K a w
  | n+1,G,a,w=>∀ i∈G,wpOp P ops Q i (fun a' w'=>S w'/\J8 P ops Q S K n (G.erase i) a' w') a w
def Ij (ops:Array Oper) (f:Array Bool->Bool):Nat->List Nat->Array Bool->Bool
  | 0,_,listed=>f listed
  | n+1,G,listed=>(Region.ready .any ops listed == G) && !G.isEmpty && G.all (fun i=>Ij ops f n (G.erase i) (listed.setIfInBounds i true))
def Ik (P:Program) (ops:Array Oper) (Q:Post) (S:World->Prop) (K:Act->World->Prop):List Nat->Act->World->Prop
  | [],a,w=>K a w
  | i::c,a,w=>wpOp P ops Q i (fun a' w'=>S w'/\Ik P ops Q S K c a' w') a w
def yR (P:Program) (ops:Array Oper) (Q:Post) (S:World->Prop) (K:Act->World->Prop) (j:Nat):List Nat->Act->World->Prop
  | [],a,w=>wpOp P ops Q j (fun a' w'=>S w'/\K a' w') a w
  | i::c,a,w=>wpOp P ops Q i (fun a' w'=>S w'/\yR P ops Q S K j c a' w') a w/\wpOp P ops Q j (fun a' w'=>S w'/\Ik P ops Q S K (i::c) a' w') a w
def seqB (ops:Array Oper) (f:Array Bool->Bool):List Nat->Array Bool->Bool
  | [],listed=>f listed
  | i::c,listed=>(Region.ready .any ops listed == [i]) && seqB ops f c (listed.setIfInBounds i true)
def xR (ops:Array Oper) (f:Array Bool->Bool) (j:Nat):List Nat->Array Bool->Bool
  | [],listed=>(Region.ready .any ops listed == [j]) && f (listed.setIfInBounds j true)
  | i::c,listed=>(Region.ready .any ops listed == (if i < j then [i,j] else [j,i])) && xR ops f j c (listed.setIfInBounds i true) && seqB ops f (i::c) (listed.setIfInBounds j true)
def oK (P:Program) (ops:Array Oper) (Q:Post) (S:World->Prop):List vR->Act->World->Prop
  | [],a,w=>Q .normal a w
  | .one i::l,a,w=>wpOp P ops Q i (fun a' w'=>(l=[]\/S w')/\oK P ops Q S l a' w') a w
  | .two i j::l,a,w=>
    wpOp P ops Q i (fun a' w'=>S w'/\wpOp P ops Q j (fun a2 w2=>S w2/\oK P ops Q S l a2 w2) a' w') a w ∧
    wpOp P ops Q j (fun a' w'=>S w'/\wpOp P ops Q i (fun a2 w2=>S w2/\oK P ops Q S l a2 w2) a' w') a w
  | .three i k j::l,a,w=>
    wpOp P ops Q i (fun a1 w1=>S w1/\wpOp P ops Q k (fun a2 w2=>S w2/\wpOp P ops Q j (fun a3 w3=>S w3/\oK P ops Q S l a3 w3) a2 w2) a1 w1 ∧
      wpOp P ops Q j (fun a2 w2=>S w2/\wpOp P ops Q k (fun a3 w3=>S w3/\oK P ops Q S l a3 w3) a2 w2) a1 w1) a w ∧
    wpOp P ops Q j (fun a1 w1=>S w1/\wpOp P ops Q i (fun a2 w2=>S w2/\wpOp P ops Q k (fun a3 w3=>S w3/\oK P ops Q S l a3 w3) a2 w2) a1 w1) a w
  | .perm G::l,a,w=>J8 P ops Q S (oK P ops Q S l) G.length G a w
  | .beside c j::l,a,w=>yR P ops Q S (oK P ops Q S l) j c a w
def xC (ops:Array Oper) (n:Nat):List vR->Array Bool->Bool
  | [],listed=>(Region.ready .any ops listed).isEmpty
  | .one i::l,listed=>(Region.ready .any ops listed == [i]) && (!l.isEmpty || i == n) && xC ops n l (listed.setIfInBounds i true)
  | .two i j::l,listed=>(Region.ready .any ops listed == [i,j]) && (Region.ready .any ops (listed.setIfInBounds i true) == [j]) && (Region.ready .any ops (listed.setIfInBounds j true) == [i]) && decide (i≠j) && xC ops n l ((listed.setIfInBounds i true).setIfInBounds j true)
  | .three i k j::l,listed=>(Region.ready .any ops listed == [i,j]) && (Region.ready .any ops (listed.setIfInBounds i true) == [k,j]) && (Region.ready .any ops ((listed.setIfInBounds i true).setIfInBounds k true) == [j]) && (Region.ready .any ops ((listed.setIfInBounds i true).setIfInBounds j true) == [k]) &&
    (Region.ready .any ops (listed.setIfInBounds j true) == [i]) && decide (i≠j) && decide (k≠j) && xC ops n l (((listed.setIfInBounds i true).setIfInBounds k true).setIfInBounds j true)
  | .perm G::l,listed=>Ij ops (xC ops n l) G.length G listed
  | .beside c j::l,listed=>xR ops (xC ops n l) j c listed
def uf:List vR->Nat
  | []=>0
  | .one _::l=>uf l+1
  | .two _ _::l=>uf l+2
  | .three _ _ _::l=>uf l+3
  | .perm G::l=>uf l+G.length
  | .beside c _::l=>uf l+(c.length+1)
theorem G8 {m i:Nat} {listed:Array Bool} {a:Act} {w:World} (hr:Region.ready .any ops listed=[i]) (h:wpOp P ops (NP Q) i (fun a' w'=>S w'/\jk P ops (NP Q) n S m (listed.setIfInBounds i true) a' w') a w):jk P ops (NP Q) n S (m+1) listed a w:=by
  refine⟨fun h0=>(by rw [hr] at h0;cases h0),fun y hy=>?_⟩
  rw [hr] at hy
  have hy:y=i:=by simpa using hy
  subst hy
  exact wpOp_mono (fun a' w' h=>⟨.inr h.1,h.2⟩) h
theorem MO {K:Act->World->Prop} {f:Array Bool->Bool} {m:Nat} (hK:∀ listed a w,f listed=true->K a w->jk P ops (NP Q) n S m listed a w):∀ (c:List Nat) (listed:Array Bool) (a:Act) (w:World),seqB ops f c listed=true->Ik P ops (NP Q) S K c a w->jk P ops (NP Q) n S (m+c.length) listed a w
  | [],listed,a,w,hb,h=>hK listed a w hb h
  | i::c,listed,a,w,hb,h=>by
    unfold seqB at hb
    simp only [Bool.and_eq_true,beq_iff_eq] at hb
    exact G8 hb.1 (wpOp_mono (fun a' w' g=>⟨g.1,MO hK c _ a' w' hb.2 g.2⟩) h)
theorem EJ {K:Act->World->Prop} {f:Array Bool->Bool} {m j:Nat} (hK:∀ listed a w,f listed=true->K a w->jk P ops (NP Q) n S m listed a w):∀ (c:List Nat) (listed:Array Bool) (a:Act) (w:World),xR ops f j c listed=true->yR P ops (NP Q) S K j c a w->jk P ops (NP Q) n S (m+(c.length+1)) listed a w
  | [],listed,a,w,hb,h=>by
    unfold xR at hb
    simp only [Bool.and_eq_true,beq_iff_eq] at hb
    exact G8 hb.1 (wpOp_mono (fun a' w' g=>⟨g.1,hK _ a' w' hb.2 g.2⟩) h)
  | i::c,listed,a,w,hb,h=>by
    unfold xR at hb
    simp only [Bool.and_eq_true,beq_iff_eq] at hb
    obtain⟨⟨h1,h2⟩,h3⟩:=hb
    refine⟨fun h0=>(by rw [h1] at h0;split at h0<;>cases h0),fun y hy=>?_⟩
    rw [h1] at hy
    have hy:y=i\/y=j:=by
      split at hy
      ·simpa using hy
      have:y=j\/y=i:=by simpa using hy
      exact this.symm
    rcases hy with rfl|rfl
    ·exact wpOp_mono (fun a' w' g=>⟨.inr g.1,EJ hK c _ a' w' h2 g.2⟩) h.1
    exact wpOp_mono (fun a' w' g=>⟨.inr g.1,MO hK (i::c) _ a' w' h3 g.2⟩) h.2
theorem J9 {K:Act->World->Prop} {f:Array Bool->Bool} {m:Nat} (hK:∀ listed a w,f listed=true->K a w->jk P ops (NP Q) n S m listed a w):∀ (k:Nat) (G:List Nat) (listed:Array Bool) (a:Act) (w:World),Ij ops f k G listed=true->J8 P ops (NP Q) S K k G a w->jk P ops (NP Q) n S (m+k) listed a w
  | 0,G,listed,a,w,hb,h=>hK listed a w hb h
  | k+1,G,listed,a,w,hb,h=>by
    unfold Ij at hb
    simp only [Bool.and_eq_true,beq_iff_eq] at hb
    obtain⟨⟨h1,h2⟩,h3⟩:=hb
    refine⟨fun h0=>(by rw [h1] at h0;rw [h0] at h2;cases h2),fun j hj=>?_⟩
    rw [h1] at hj
    exact wpOp_mono (fun a' w' g=>⟨.inr g.1,J9 hK k (G.erase j) _ a' w' (List.all_eq_true.1 h3 j hj) g.2⟩) (h j hj)
theorem qb:∀ (l:List vR) (listed:Array Bool) (a:Act) (w:World),xC ops n l listed=true->oK P ops (NP Q) S l a w->jk P ops (NP Q) n S (uf l) listed a w
  | [],listed,a,w,hb,h=>⟨List.isEmpty_iff.1 hb,h⟩
  | .one i::l,listed,a,w,hb,h=>by
    unfold xC at hb
    simp only [Bool.and_eq_true,beq_iff_eq] at hb
    obtain⟨⟨h1,h2⟩,h3⟩:=hb
    refine⟨fun h0=>(by rw [h1] at h0;cases h0),fun j hj=>?_⟩
    rw [h1] at hj
    have hj:j=i:=by simpa using hj
    subst hj
    refine wpOp_mono (fun a' w' h4=>⟨?_,qb l _ a' w' h3 h4.2⟩) h
    rcases h4.1 with h5|h5
    ·subst h5;exact .inl (by simpa using h2)
    exact .inr h5
  | .two i j::l,listed,a,w,hb,h=>by
    unfold xC at hb
    simp only [Bool.and_eq_true,beq_iff_eq,decide_eq_true_iff] at hb
    obtain⟨⟨⟨⟨h1,h2⟩,h3⟩,hij⟩,h4⟩:=hb
    refine⟨fun h0=>(by rw [h1] at h0;cases h0),fun k hk=>?_⟩
    rw [h1] at hk
    have hk:k=i\/k=j:=by simpa using hk
    rcases hk with rfl|rfl
    ·refine wpOp_mono (fun a' w' h5=>⟨.inr h5.1,fun h0=>(by rw [h2] at h0;cases h0),fun k' hk'=>?_⟩) h.1
     rw [h2] at hk'
     have hk':k'=j:=by simpa using hk'
     subst hk'
     exact wpOp_mono (fun a2 w2 h6=>⟨.inr h6.1,qb l _ a2 w2 h4 h6.2⟩) h5.2
    refine wpOp_mono (fun a' w' h5=>⟨.inr h5.1,fun h0=>(by rw [h3] at h0;cases h0),fun k' hk'=>?_⟩) h.2
    rw [h3] at hk'
    have hk':k'=i:=by simpa using hk'
    subst hk'
    refine wpOp_mono (fun a2 w2 h6=>⟨.inr h6.1,?_⟩) h5.2
    rw [Array.setIfInBounds_comm _ _ (fun e=>hij e.symm)]
    exact qb l _ a2 w2 h4 h6.2
  | .three i k j::l,listed,a,w,hb,h=>by
    unfold xC at hb
    simp only [Bool.and_eq_true,beq_iff_eq,decide_eq_true_iff] at hb
    obtain⟨⟨⟨⟨⟨⟨⟨h1,h2⟩,h3⟩,h4⟩,h5⟩,hij⟩,hkj⟩,h6⟩:=hb
    have one:∀ {x:Nat} {ls:Array Bool} {fuel:Nat} {a:Act} {w:World},Region.ready .any ops ls=[x]->wpOp P ops (NP Q) x (fun a' w'=>S w'/\jk P ops (NP Q) n S fuel (ls.setIfInBounds x true) a' w') a w->jk P ops (NP Q) n S (fuel+1) ls a w:=fun {x ls fuel a w} hr hx=>by
      refine⟨fun h0=>(by rw [hr] at h0;cases h0),fun y hy=>?_⟩
      rw [hr] at hy
      have hy:y=x:=by simpa using hy
      subst hy
      exact wpOp_mono (fun a' w' h=>⟨.inr h.1,h.2⟩) hx
    have e1:(((listed.setIfInBounds i true).setIfInBounds j true).setIfInBounds k true)=(((listed.setIfInBounds i true).setIfInBounds k true).setIfInBounds j true):=Array.setIfInBounds_comm _ _ (fun e=>hkj e.symm)
    have e2:((listed.setIfInBounds j true).setIfInBounds i true)=((listed.setIfInBounds i true).setIfInBounds j true):=Array.setIfInBounds_comm _ _ (fun e=>hij e.symm)
    refine⟨fun h0=>(by rw [h1] at h0;cases h0),fun x hx=>?_⟩
    rw [h1] at hx
    have hx:x=i\/x=j:=by simpa using hx
    rcases hx with rfl|rfl
    ·refine wpOp_mono (fun a1 w1 g=>⟨.inr g.1,fun h0=>(by rw [h2] at h0;cases h0),fun y hy=>?_⟩) h.1
     rw [h2] at hy
     have hy:y=k\/y=j:=by simpa using hy
     rcases hy with rfl|rfl
     ·exact wpOp_mono (fun a2 w2 g2=>⟨.inr g2.1,one h3 (wpOp_mono (fun a3 w3 g3=>⟨g3.1,qb l _ a3 w3 h6 g3.2⟩) g2.2)⟩) g.2.1
     exact wpOp_mono (fun a2 w2 g2=>⟨.inr g2.1,one h4 (wpOp_mono (fun a3 w3 g3=>⟨g3.1,by rw [e1];exact qb l _ a3 w3 h6 g3.2⟩) g2.2)⟩) g.2.2
    refine wpOp_mono (fun a1 w1 g=>⟨.inr g.1,one h5 (wpOp_mono (fun a2 w2 g2=>⟨g2.1,?_⟩) g.2)⟩) h.2
    rw [e2]
    exact one h4 (wpOp_mono (fun a3 w3 g3=>⟨g3.1,by rw [e1];exact qb l _ a3 w3 h6 g3.2⟩) g2.2)
  | .perm G::l,listed,a,w,hb,h=>J9 (m:=uf l) (fun ls a w hb h=>qb l ls a w hb h) G.length G listed a w hb h
  | .beside c j::l,listed,a,w,hb,h=>EJ (m:=uf l) (fun ls a w hb h=>qb l ls a w hb h) c listed a w hb h
def rP (P:Program) (ops:Array Oper) (Q:Post) (S:World->Prop) (es:List vR):List Nat->Act->World->Prop
  | [],a,w=>oK P ops Q S es a w
  | i::l,a,w=>∃ o v,ops[i]?=some o/\YieldsIf P ops S o v a/\rP P ops Q S es l (a.put o.dst v) w
def Il (ops:Array Oper) (n:Nat) (es:List vR):List Nat->Array Bool->Bool
  | [],listed=>xC ops n es listed
  | i::l,listed=>decide (i < n) && Region.free .any ops listed i && (Region.ready .any ops listed).contains i && Il ops n es l (listed.setIfInBounds i true)
theorem Ka {es:List vR} (hsel:Region.noSelect ops=true) (lZ:Region.sinkB .any ops n=true):∀ (l:List Nat) (listed:Array Bool) (a:Act) (w:World),Il ops n es l listed=true->Closed ops listed->S w->rP P ops (NP Q) S es l a w->jk P ops (NP Q) n S (l.length+uf es) listed a w
  | [],listed,a,w,hb,_,_,h=>by
    rw [List.length_nil,Nat.zero_add]
    exact qb es listed a w hb h
  | i::l,listed,a,w,hb,hc,hS,h=>by
    unfold Il at hb
    simp only [Bool.and_eq_true,decide_eq_true_iff] at hb
    obtain⟨⟨⟨h1,h2⟩,h3⟩,h4⟩:=hb
    obtain⟨o,v,ho,hy,hk⟩:=h
    have hr:i∈Region.ready .any ops listed:=by simpa using h3
    have e:(i::l).length+uf es=(l.length+uf es)+1:=by rw [List.length_cons];omega
    rw [e]
    exact rG ho hsel lZ h1 _ listed a w hc (Region.free_spec ho h2) hr hy hS (Ka hsel lZ l _ _ w h4 (hc.set hr) hS hk)
def MP (ops:Array Oper) (rs:List Nat) (es:List vR):Bool:=
  Region.noSelect ops && Region.sinkB .any ops (ops.size - 1) && (rs.length+uf es == ops.size) && Il ops (ops.size - 1) es rs (Array.replicate ops.size false)
end order
section mix
variable {P:Program} {β:Bs} {N:dm} {ops:Array Oper} {S:List HP} {rs:List Nat} {es:List vR} {fr fr':Fr} {hps:List HP} {Q:Post} {ct:List Prop} {i j:Nat}
def iP (P:Program) (β:Bs) (N:dm) (ops:Array Oper) (S:List HP) (es:List vR) (rs:List Nat) (fr:Fr) (hps:List HP) (Q:Post):Prop:=
  ∀ junk w,Sat β hps w->rP P ops (NP Q) (Sat β S) es rs (bW N fr junk) w
theorem af.rQ {id:Nat} (rs:List Nat) (es:List vR) (pk:List Nat) (hm:P.follows .mixedOrders=true) (hB:MP ops rs es=true) (hn:aN pk=true) (hp:bp hps pk=some S) (h:iP P β N ops S es rs fr hps Q):af P β N (.region id ops true) fr hps Q:=by
  intro junk w hS
  unfold MP at hB
  simp only [Bool.and_eq_true,beq_iff_eq] at hB
  obtain⟨⟨⟨h1,h2⟩,h3⟩,h4⟩:=hB
  have dr:=hS.drewN 1
  have h5:=Ka (Q:=Q) h1 h2 rs _ _ _ h4 (fun j oj _ hl=>by simp [Array.getD_eq_getD_getElem?,Array.getElem?_replicate] at hl;split at hl<;>simp at hl) (dr.pick hn hp) (h junk (w.drewN 1) dr)
  rw [h3] at h5
  refine Code.wp_mono (fun e a w q=>?_) (wp_region_any hm (pP _ _ _ _ h5))
  cases e with
  | normal=>exact q
  | exit id=>exact q.elim
  | goto l=>exact q.elim
  | ret=>exact q.elim
  | panic ch=>exact q.elim
  | outgrown=>exact q.elim
theorem zu {junk:Nat->Value} {w:World}:∀ {hs:List OH} {is:List Nat} {fr fr':Fr} {T T':SS},tE P β N junk ops hs is fr T=some (fr',T')->(∀ p,p∈T'.ct->p)->T.used=true->T.hps=S →
    rP P ops (NP Q) (Sat β S) es rs (bW N fr' junk) w->rP P ops (NP Q) (Sat β S) es (is++rs) (bW N fr junk) w
  | [],[],fr,fr',T,T',h,ho,hu,hT,hK=>by cases h;exact hK
  | h::hs,i::is,fr,fr',T,T',hr,ho,hu,hT,hK=>by
    unfold tE at hr
    repeat' split at hr
    all_goals first|(cases hr;done)|skip
    rename_i o hget _ Iw _ v T1 h0 _ hv
    obtain⟨e1,e2⟩:=su h0
    rw [List.cons_append]
    unfold rP
    refine⟨o,v,hget,.inl ⟨by unfold Region.wanted;rw [Iw],fun w' dr=>?_⟩,?_⟩
    ·rw [eX]
     obtain⟨w2,h1,_,_,h4⟩:=kN h0 (fun p hp=>ho p (ye hr p hp)) (by rw [hT];exact dr) (fun e=>by rw [hu] at e;cases e)
     obtain⟨ew,_⟩:=h4 rfl
     rw [ew] at h1
     rcases h1 with h1|⟨h1,_⟩
     ·exact h1
     exact absurd h1 (oQ hv)
    rw [dU]
    exact zu hr ho (e2.trans hu) (e1.trans hT) hK
  | [],_::_,_,_,_,_,h,_,_,_,_=>by cases h
  | _::_,[],_,_,_,_,h,_,_,_,_=>by cases h
theorem iP.reads (is:List Nat) (hs:List OH) (idx:List Nat) (h:∀ junk,sx P β N junk ops hs is fr S idx=some (fr',ct)) (ho:kM ct) (K:iP P β N ops S es rs fr' hps Q):iP P β N ops S es (is++rs) fr hps Q:=by
  intro junk w hS
  have h0:=h junk
  unfold sx at h0
  split at h0
  ·rename_i mW S1 h1
   cases h0
   have hK:=K (lk mW junk) w hS
   rw [← jr] at hK
   exact zu h1 (fun p hp=>ho.mem hp) rfl rfl hK
  cases h0
theorem gP (uw:Fr) (is:List Nat) (os:List (Nat×OP)) (K:iP P β N ops S es [] uw hps Q)
    (h:∀ junk,sx P β N junk ops (bY (cr is.length os 0)) is fr S (aQ uw)=some (uw,owed (cr is.length os 0)):=by intro _;kernel_rfl):iP P β N ops S es (is++[]) fr hps Q:=
  iP.reads is (bY (cr is.length os 0)) (aQ uw) h (oR _) K
theorem iP.pair {ι Yo Yp:Type} {QH:Yo->Fr} {hpi:Yo->List HP} {QI:Yp->Fr} {QJ:Yp->List HP} {fr':ι->Fr} {hp':ι->List HP} {oi oj:Oper} (pki pkj pk:List Nat)
    (hi:ops[i]?=some oi) (Vx:oi.guard=none) (hj:ops[j]?=some oj) (hgj:oj.guard=none)
    (h1:ak P β N #[oi] 0 fr hps (NP (qp β N QH hpi))) (h2:∀ a,ak P β N #[oj] 0 (QH a) (hpi a) (NP (qp β N fr' hp')))
    (h3:ak P β N #[oj] 0 fr hps (NP (qp β N QI QJ))) (h4:∀ a,ak P β N #[oi] 0 (QI a) (QJ a) (NP (qp β N fr' hp')))
    (hni:aN pki=true) (abd:∀ a,bp (hpi a) pki=some S) (hnj:aN pkj=true) (abe:∀ a,bp (QJ a) pkj=some S) (hn:aN pk=true) (hp:∀ a,bp (hp' a) pk=some S)
    (K:∀ a,iP P β N ops S es [] (fr' a) (hp' a) Q):iP P β N ops S (.two i j::es) [] fr hps Q:=by
  intro junk w hS
  unfold rP oK
  refine⟨jc hi Vx (kR (fun a w ⟨x,iq,ha,dr⟩=>?_) (show wpList P #[oi] (NP (qp β N QH hpi)) [oi] (bW N fr junk) w from h1 junk w hS)),jc hj hgj (kR (fun a w ⟨x,iq,ha,dr⟩=>?_) (show wpList P #[oj] (NP (qp β N QI QJ)) [oj] (bW N fr junk) w from h3 junk w hS))⟩
  ·subst ha
   refine⟨dr.pick hni (abd x),jc hj hgj (kR (fun a w ⟨y,yS,ha,qg⟩=>?_) (show wpList P #[oj] (NP (qp β N fr' hp')) [oj] (bW N (QH x) iq) w from h2 x iq w dr))⟩
   subst ha
   exact⟨qg.pick hn (hp y),K y yS _ qg⟩
  subst ha
  refine⟨dr.pick hnj (abe x),jc hi Vx (kR (fun a w ⟨y,yS,ha,qg⟩=>?_) (show wpList P #[oi] (NP (qp β N fr' hp')) [oi] (bW N (QI x) iq) w from h4 x iq w dr))⟩
  subst ha
  exact⟨qg.pick hn (hp y),K y yS _ qg⟩
theorem iP.cut {ι:Type} {fr':ι->Fr} {hp':ι->List HP} {o:Oper} (pk:List Nat) (hop:ops[i]?=some o) (hg:o.guard=none) (h:ak P β N #[o] 0 fr hps (NP (qp β N fr' hp'))) (hn:aN pk=true) (hp:∀ j,bp (hp' j) pk=some S)
    (K:∀ j,iP P β N ops S es [] (fr' j) (hp' j) Q):iP P β N ops S (.one i::es) [] fr hps Q:=by
  intro junk w hS
  unfold rP oK
  refine jc hop hg (kR (fun a w ⟨j,iq,ha,dr⟩=>?_) (show wpList P #[o] (NP (qp β N fr' hp')) [o] (bW N fr junk) w from h junk w hS))
  subst ha
  exact⟨.inr (dr.pick hn (hp j)),K j iq _ dr⟩
theorem Sat.left {a b:List HP} {w:World} (h:Sat β (a++b) w):Sat β a w:=by
  obtain⟨h0,φ,h1,h2,h3⟩:=h
  have hlen:a.length<=(a++b).length:=by simp
  exact⟨h0,φ,fun i p hp=>h1 i p (by rw [List.getElem?_append_left (bR hp)];exact hp),fun i hi=>h2 i (by omega),fun i j hi hj=>h3 i j (by omega) (by omega)⟩
def ic (P:Program) (β:Bs) (N:dm) (ops:Array Oper) (Q:Post) (i d:Nat) (ds:List Nat) (fr:Fr) (pre:List HP) (post:Value->List HP->Prop):Prop:=
  ∀ junk w (A:cO),Sat β (pre++[.abs A]) w->wpOp P ops (NP Q) i (fun a' w'=>∃ v l iq,post v l/\a'=bW N fr iq/\iq d=v/\(∀ t∈ds,t≠d->iq t=junk t)/\Sat β (l++[.abs A]) w') (bW N fr junk) w
def G9 (q6:List Nat) (u:Nat->Value):Fr:=q6.map fun t=>(t,u t)
theorem He {q6:List Nat} {u:Nat->Value}:aQ (G9 q6 u)=q6:=by
  induction q6 with
  | nil=>rfl
  | cons a r ih=>exact congrArg (a::·) ih
theorem QK {q6:List Nat} {u junk:Nat->Value} {t:Nat} (h:t∈q6):lk (G9 q6 u) junk t=u t:=by
  induction q6 with
  | nil=>cases h
  | cons a r ih=>
    grind [lk,G9,gI]
theorem qc {fr uw:Fr} {junk yS:Nat->Value} (h:∀ t,lk fr junk t=lk uw yS t):bW N fr junk=bW N uw yS:=by
  unfold bW
  rw [show lk fr junk=lk uw yS from funext h]
theorem ic.of {ι:Type} {v:ι->Value} {l:ι->List HP} {o:Oper} {d:Nat} {pre:List HP} (q6:List Nat) (hop:ops[i]?=some o) (hg:o.guard=none) (ach:(d::q6).all (fun t=>!jh t (aQ fr))=true) (hd:jh d q6=false)
    (h:∀ (u:Nat->Value) (A:cO),ak P β N #[o] 0 (G9 q6 u++fr) (pre++[.abs A]) (NP (qp β N (fun x=>(d,v x)::(G9 q6 u++fr)) (fun x=>l x++[.abs A])))):ic P β N ops Q i d (d::q6) fr pre (fun v' l'=>∃ x,v'=v x/\l'=l x):=by
  intro junk w A hS
  have hout:∀ t∈d::q6,t∉aQ fr:=fun t ht hm=>by
    grind [jl]
  have hdo:d∉q6:=by grind [jl]
  have e1:bW N fr junk=bW N (G9 q6 junk++fr) junk:=qc fun t=>by
    grind [DP,He,QK,oU]
  rw [e1]
  refine jc hop hg (kR (fun a w ⟨x,aat,ha,dr⟩=>?_) (show wpList P #[o] (NP (qp β N _ _)) [o] (bW N (G9 q6 junk++fr) junk) w from h junk A junk w hS))
  refine⟨v x,l x,lk ((d,v x)::(G9 q6 junk++fr)) aat,⟨x,rfl,rfl⟩,?_,by rw [gI,if_pos rfl],fun t ht hn=>?_,dr⟩
  all_goals grind [qc,aQ,gI,DP,He,Ic,oU,QK]
theorem ic.at_ {d:Nat} {ds:List Nat} {pre X Y:List HP} {post:Value->List HP->Prop} {junk:Nat->Value} {w:World} {K:Act->World->Prop} (h:ic P β N ops Q i d ds fr pre post) (hS:Sat β (X++(pre++Y)) w)
    (hK:∀ v l iq w',post v l->iq d=v->(∀ t∈ds,t≠d->iq t=junk t)->Sat β (X++(l++Y)) w'->K (bW N fr iq) w'):wpOp P ops (NP Q) i K (bW N fr junk) w:=by
  have h1:=Sat.turn hS
  rw [List.append_assoc] at h1
  refine wpOp_mono (fun a' w' ⟨v,l,j2,g1,g2,g3,g4,g5⟩=>?_) (h junk w _ h1.lQ)
  rw [g2]
  refine hK v l j2 w' g1 g3 g4 ?_
  have h2:=g5.zF
  rw [← List.append_assoc] at h2
  exact Sat.turn h2
theorem ic.grow {d d1:Nat} {ds:List Nat} {pre:List HP} {q:Value->List HP->Prop} (h:ic P β N ops Q i d (d::d1::ds) fr pre q) (h1:d1∉aQ fr) (hd:d1≠d) (hn:d1∉ds) (v1:Value):ic P β N ops Q i d (d::ds) ((d1,v1)::fr) pre q:=by
  intro junk w A hS
  have e:bW N ((d1,v1)::fr) junk=bW N fr (fun t=>if t=d1 then v1 else junk t):=qc fun t=>by
    grind [gI,oU,aQ,Ic]
  rw [e]
  refine wpOp_mono (fun a' w' ⟨v,l,j2,g1,g2,g3,g4,g5⟩=>?_) (h _ w A hS)
  have k1:j2 d1=v1:=by grind
  refine⟨v,l,j2,g1,?_,g3,fun t ht hne=>?_,g5⟩
  ·rw [g2]
   refine qc fun t=>?_
   grind [gI,oU]
  grind
def kr (P:Program) (β:Bs) (N:dm) (ops:Array Oper) (Q:Post) (dj:Nat):List (Nat×Nat)->Fr->List HP->(Fr->List HP->Prop)->Prop
  | [],fr,hps,R=>R fr hps
  | (i,d)::c,fr,hps,R=>(jh d (aQ fr)=false/\d≠dj)/\∃ q:Value->List HP->Prop,ic P β N ops Q i d [d,dj] fr hps q/\∀ v l,q v l->kr P β N ops Q dj c ((d,v)::fr) l R
theorem kr.step {dj d:Nat} {c:List (Nat×Nat)} {R:Fr->List HP->Prop} {q:Value->List HP->Prop} (h:ic P β N ops Q i d [d,dj] fr hps q) (h1:(!jh d (aQ fr) && decide (d≠dj))=true) (K:∀ v l,q v l->kr P β N ops Q dj c ((d,v)::fr) l R):kr P β N ops Q dj ((i,d)::c) fr hps R:=by
  grind [ic,jh,aQ,kr]
section Yq
variable {dj:Nat} {Z pj:List HP} {qj:Value->List HP->Prop} {R:Fr->List HP->Prop} {pS:List Nat} {F:Act->World->Prop}
theorem Sat.rest {X:List HP} {w:World} (zw:aN pS=true) (zx:bp Z pS=some S) (h:Sat β (X++Z) w):Sat β S w:=Sat.pick (idx:=pS) (l:=Z) (Sat.left (Sat.turn h)) zw zx
theorem Hf {v:Value} {l2:List HP} (zw:aN pS=true) (zx:bp Z pS=some S) (hK:∀ f1 h1,R f1 h1->∀ junk w,Sat β (h1++(l2++Z)) w->F (bW N ((dj,v)::f1) junk) w) :
    ∀ (c:List (Nat×Nat)) (fr:Fr) (hps:List HP) (junk:Nat->Value) (w:World),jh dj (aQ fr)=false->kr P β N ops Q dj c fr hps R->junk dj=v->Sat β (hps++(l2++Z)) w->Ik P ops (NP Q) (Sat β S) F (c.map (·.1)) (bW N fr junk) w
  | [],fr,hps,junk,w,hdj,hc,hv,hS=>by
    have e:bW N fr junk=bW N ((dj,v)::fr) junk:=qc fun t=>by
      rw [gI]
      by_cases e1:dj=t
      ·subst e1;rw [if_pos rfl,oU (fun hm=>by rw [jl.2 hm] at hdj;cases hdj),hv]
      rw [if_neg e1]
    show F (bW N fr junk) w
    rw [e]
    exact hK fr hps hc junk w hS
  | (i,d)::c,fr,hps,junk,w,hdj,⟨⟨h1,h2⟩,q,h3,h4⟩,hv,hS=>by
    show wpOp P ops (NP Q) i _ _ _
    refine h3.at_ (X:=[]) hS (fun v' l j2 w' g1 g2 g3 g4=>⟨Sat.rest (X:=l++l2) zw zx (by rw [List.append_assoc];exact g4),?_⟩)
    have e:bW N fr j2=bW N ((d,v')::fr) j2:=qc fun t=>by
      rw [gI]
      by_cases e1:d=t
      ·subst e1;rw [if_pos rfl,oU (fun hm=>by rw [jl.2 hm] at h1;cases h1),g2]
      rw [if_neg e1]
    rw [e]
    refine Hf zw zx hK c _ l j2 w' ?_ (h4 v' l g1) ((g3 dj (by simp) (fun e=>h2 e.symm)).trans hv) g4
    cases hb:jh dj (aQ ((d,v')::fr)) with
    | false=>rfl
    | true=>
      rcases List.mem_cons.1 (jl.1 hb) with e|e
      ·exact absurd e.symm h2
      rw [jl.2 e] at hdj;cases hdj
theorem Hg {j:Nat} (zw:aN pS=true) (zx:bp Z pS=some S) (hK:∀ f1 h1,R f1 h1->∀ v l2,qj v l2->∀ junk w,Sat β (h1++(l2++Z)) w->F (bW N ((dj,v)::f1) junk) w) :
    ∀ (c:List (Nat×Nat)) (fr:Fr) (hps:List HP) (junk:Nat->Value) (w:World),aN (c.map (·.2))=true->jh dj (aQ fr)=false->ic P β N ops Q j dj (dj::c.map (·.2)) fr pj qj->kr P β N ops Q dj c fr hps R->Sat β (hps++(pj++Z)) w->yR P ops (NP Q) (Sat β S) F j (c.map (·.1)) (bW N fr junk) w
  | [],fr,hps,junk,w,_,hdj,hj,hc,hS=>by
    show wpOp P ops (NP Q) j _ _ _
    refine hj.at_ (X:=hps) hS (fun v l j2 w' g1 g2 g3 g4=>⟨Sat.rest (X:=hps++l) zw zx (by rw [List.append_assoc];exact g4),?_⟩)
    have e:bW N fr j2=bW N ((dj,v)::fr) j2:=qc fun t=>by
      rw [gI]
      by_cases e1:dj=t
      ·subst e1;rw [if_pos rfl,oU (fun hm=>by rw [jl.2 hm] at hdj;cases hdj),g2]
      rw [if_neg e1]
    rw [e]
    exact hK fr hps hc v l g1 j2 w' g4
  | (i,d)::c,fr,hps,junk,w,hnd,hdj,hj,hc,hS=>by
    obtain⟨⟨h1,h2⟩,q,h3,h4⟩:=hc
    have hout:d∉aQ fr:=fun hm=>by rw [jl.2 hm] at h1;cases h1
    refine⟨h3.at_ (X:=[]) hS (fun v' l j2 w' g1 g2 g3 g4=>⟨Sat.rest (X:=l++pj) zw zx (by rw [List.append_assoc];exact g4),?_⟩),hj.at_ (X:=hps) hS (fun v l j2 w' g1 g2 g3 g4=>⟨Sat.rest (X:=hps++l) zw zx (by rw [List.append_assoc];exact g4),?_⟩)⟩
    ·have e:bW N fr j2=bW N ((d,v')::fr) j2:=qc fun t=>by
       rw [gI]
       by_cases e1:d=t
       ·subst e1;rw [if_pos rfl,oU hout,g2]
       rw [if_neg e1]
     rw [e]
     have rJ:d∉c.map (·.2)/\aN (c.map (·.2))=true:=by
       have hx:aN (d::c.map (·.2))=true:=hnd
       unfold aN at hx
       simp only [Bool.and_eq_true] at hx
       exact⟨fun hm=>by have h:=hx.1;simp_all,hx.2⟩
     refine Hg zw zx hK c _ l j2 w' rJ.2 ?_ (hj.grow hout h2 rJ.1 v') (h4 v' l g1) g4
     cases hb:jh dj (aQ ((d,v')::fr)) with
     | false=>rfl
     | true=>
       rcases List.mem_cons.1 (jl.1 hb) with e|e
       ·exact absurd e.symm h2
       rw [jl.2 e] at hdj;cases hdj
    exact Hf zw zx (fun f1 h1 hr=>hK f1 h1 hr v l g1) ((i,d)::c) fr hps j2 w' hdj ⟨⟨h1,h2⟩,q,h3,h4⟩ g2 g4
theorem iP.beside {j:Nat} {pc:List HP} (pk pS:List Nat) (c:List (Nat×Nat)) (hn:aN pk=true) (hp:bp hps pk=some (pc++(pj++Z))) (zw:aN pS=true) (zx:bp Z pS=some S) (hnd:aN (c.map (·.2))=true) (hdj:jh dj (aQ fr)=false)
    (hj:ic P β N ops Q j dj (dj::c.map (·.2)) fr pj qj) (hc:kr P β N ops Q dj c fr pc R)
    (K:∀ f1 h1,R f1 h1->∀ v l,qj v l->iP P β N ops S es [] ((dj,v)::f1) (h1++(l++Z)) Q):iP P β N ops S (.beside (c.map (·.1)) j::es) [] fr hps Q:=by
  intro junk w hS
  exact Hg (F:=oK P ops (NP Q) (Sat β S) es) zw zx (fun f1 h1 hr v l2 hv junk w hS=>K f1 h1 hr v l2 hv junk w hS) c fr pc junk w hnd hdj hj hc (hS.pick hn hp)
end Yq
theorem iP.last {o:Oper} (hop:ops[i]?=some o) (hg:o.guard=none) (h:ak P β N #[o] 0 fr hps (NP Q)):iP P β N ops S [.one i] [] fr hps Q:=by
  grind [rP,oK,jc,kR,NP,bW,ak,iP]
end mix
end
section
open Go.RowKit
section order
variable {P:Program} {ops:Array Oper} {Q Q':Post} {n:Nat} {S:World->Prop} {j:Nat} {l2:List (Bool×Nat)}
def pu (P:Program) (ops:Array Oper) (Q:Post) (S:World->Prop) (j:Nat) (l2:List (Bool×Nat)):List (Bool×Nat)->Act->World->Prop
  | [],a,w=>wpOp P ops Q j (fun a' w'=>S w'/\iG P ops Q S l2 a' w') a w
  | (false,i)::l,a,w=>wpOp P ops Q i (fun a' w'=>S w'/\pu P ops Q S j l2 l a' w') a w/\wpOp P ops Q j (fun a' w'=>S w'/\iG P ops Q S ((false,i)::(l++l2)) a' w') a w
  | (true,i)::l,a,w=>∃ o v,ops[i]?=some o/\YieldsIf P ops S o v a/\pu P ops Q S j l2 l (a.put o.dst v) w
def yT (ops:Array Oper) (n j:Nat) (l2:List (Bool×Nat)):List (Bool×Nat)->Array Bool->Bool
  | [],listed=>(Region.ready .any ops listed == [j]) && wg ops n l2 (listed.setIfInBounds j true)
  | (false,i)::l,listed=>(Region.ready .any ops listed == (if i < j then [i,j] else [j,i])) && yT ops n j l2 l (listed.setIfInBounds i true) && wg ops n ((false,i)::(l++l2)) (listed.setIfInBounds j true)
  | (true,i)::l,listed=>decide (i < n) && Region.free .any ops listed i && (Region.ready .any ops listed).contains i && yT ops n j l2 l (listed.setIfInBounds i true)
theorem Dl (hsel:Region.noSelect ops=true) (lZ:Region.sinkB .any ops n=true):∀ (l:List (Bool×Nat)) (listed:Array Bool) (a:Act) (w:World),yT ops n j l2 l listed=true->Closed ops listed->S w->pu P ops (NP Q) S j l2 l a w->jk P ops (NP Q) n S (l.length+(l2.length+1)) listed a w
  | [],listed,a,w,hb,hc,_,h=>by
    unfold yT at hb
    simp only [Bool.and_eq_true,beq_iff_eq] at hb
    obtain⟨h1,h3⟩:=hb
    rw [List.length_nil,Nat.zero_add]
    refine⟨fun h0=>(by rw [h1] at h0;cases h0),fun k hk=>?_⟩
    have hr:=hk
    rw [h1] at hk
    have hk:k=j:=by simpa using hk
    subst hk
    exact wpOp_mono (fun a' w' h4=>⟨.inr h4.1,vk hsel lZ l2 _ a' w' h3 (hc.set hr) (.inr h4.1) h4.2⟩) h
  | (false,i)::l,listed,a,w,hb,hc,_,h=>by
    unfold yT at hb
    simp only [Bool.and_eq_true,beq_iff_eq] at hb
    obtain⟨⟨h1,h2⟩,h3⟩:=hb
    rw [List.length_cons,Nat.succ_add]
    refine⟨fun h0=>(by rw [h1] at h0;split at h0<;>cases h0),fun k hk=>?_⟩
    have hr:=hk
    rw [h1] at hk
    have hk:k=i\/k=j:=by
      split at hk<;>(simp at hk;omega)
    rcases hk with rfl|rfl
    ·exact wpOp_mono (fun a' w' h4=>⟨.inr h4.1,Dl hsel lZ l _ a' w' h2 (hc.set hr) h4.1 h4.2⟩) h.1
    refine wpOp_mono (fun a' w' h4=>⟨.inr h4.1,?_⟩) h.2
    have:=vk hsel lZ ((false,i)::(l++l2)) _ a' w' h3 (hc.set hr) (.inr h4.1) h4.2
    rw [List.length_cons,List.length_append] at this
    exact this
  | (true,i)::l,listed,a,w,hb,hc,hS,h=>by
    unfold yT at hb
    simp only [Bool.and_eq_true,decide_eq_true_iff] at hb
    obtain⟨⟨⟨h1,h2⟩,h3⟩,h4⟩:=hb
    obtain⟨o,v,ho,hy,hk⟩:=h
    have hr:i∈Region.ready .any ops listed:=by simpa using h3
    rw [List.length_cons,Nat.succ_add]
    exact rG ho hsel lZ h1 _ listed a w hc (Region.free_spec ho h2) hr hy hS (Dl hsel lZ l _ _ w h4 (hc.set hr) hS hk)
def MQ (ops:Array Oper) (j:Nat) (l l2:List (Bool×Nat)):Bool:=
  Region.noSelect ops && Region.sinkB .any ops (ops.size - 1) && (l.length+(l2.length+1) == ops.size) && yT ops (ops.size - 1) j l2 l (Array.replicate ops.size false)
end order
section mix
variable {P:Program} {β:Bs} {N:dm} {ops:Array Oper} {S:List HP} {l l' l2:List (Bool×Nat)} {fr fr':Fr} {hps:List HP} {Q:Post} {ct:List Prop} {i j:Nat}
def xD (P:Program) (β:Bs) (N:dm) (ops:Array Oper) (S:List HP) (j:Nat) (l2 l:List (Bool×Nat)) (fr:Fr) (hps:List HP) (Q:Post):Prop:=
  ∀ junk w,Sat β hps w->pu P ops (NP Q) (Sat β S) j l2 l (bW N fr junk) w
theorem af.FR {id:Nat} (j:Nat) (l l2:List (Bool×Nat)) (hm:P.follows .mixedOrders=true) (hB:MQ ops j l l2=true) (hp:∀ w,Sat β hps w->Sat β S w) (h:xD P β N ops S j l2 l fr hps Q):af P β N (.region id ops true) fr hps Q:=by
  intro junk w hS
  unfold MQ at hB
  simp only [Bool.and_eq_true,beq_iff_eq] at hB
  obtain⟨⟨⟨h1,h2⟩,h3⟩,h4⟩:=hB
  have dr:=hS.drewN 1
  have h5:=Dl (Q:=Q) h1 h2 l _ _ _ h4 (fun j oj _ hl=>by simp [Array.getD_eq_getD_getElem?,Array.getElem?_replicate] at hl;split at hl<;>simp at hl) (hp _ dr) (h junk (w.drewN 1) dr)
  rw [h3] at h5
  refine Code.wp_mono (fun e a w q=>?_) (wp_region_any hm (pP _ _ _ _ h5))
  cases e with
  | normal=>exact q
  | exit id=>exact q.elim
  | goto l=>exact q.elim
  | ret=>exact q.elim
  | panic ch=>exact q.elim
  | outgrown=>exact q.elim
theorem vS {junk:Nat->Value} {w:World}:∀ {hs:List OH} {is:List Nat} {fr fr':Fr} {T T':SS},kY P β N junk ops hs is fr T=some (fr',T')->(∀ p,p∈T'.ct->p)->T.used=true->T.hps=S →
    pu P ops (NP Q) (Sat β S) j l2 l (bW N fr' junk) w->pu P ops (NP Q) (Sat β S) j l2 (is.map (fun i=>(true,i))++l) (bW N fr junk) w
  | [],[],fr,fr',T,T',h,ho,hu,hT,hK=>by cases h;exact hK
  | h::hs,i::is,fr,fr',T,T',hr,ho,hu,hT,hK=>by
    unfold kY at hr
    repeat' split at hr
    all_goals first|(cases hr;done)|skip
    ·rename_i o hget _ nT _ v T1 h0 _ hv
     obtain⟨e1,e2⟩:=su h0
     rw [List.map_cons,List.cons_append]
     unfold pu
     refine⟨o,v,hget,.inl ⟨by rw [d6];exact nT,fun w' dr=>?_⟩,?_⟩
     ·rw [eX]
      obtain⟨w2,h1,_,_,h4⟩:=kN h0 (fun p hp=>ho p (rH hr p hp)) (by rw [hT];exact dr) (fun e=>by rw [hu] at e;cases e)
      obtain⟨ew,_⟩:=h4 rfl
      rw [ew] at h1
      rcases h1 with h1|⟨h1,_⟩
      ·exact h1
      exact absurd h1 (oQ hv)
     rw [dU]
     exact vS hr ho (e2.trans hu) (e1.trans hT) hK
    rename_i o hget _ nT
    rw [List.map_cons,List.cons_append]
    unfold pu
    refine⟨o,undef,hget,.inr ⟨by rw [d6];exact nT,rfl⟩,?_⟩
    rw [dU]
    exact vS hr ho hu hT hK
  | [],_::_,_,_,_,_,h,_,_,_,_=>by cases h
  | _::_,[],_,_,_,_,h,_,_,_,_=>by cases h
theorem gJ (l3:List (Bool×Nat)) (uw:Fr) (is:List Nat) (os:List (Nat×OP)) (K:xD P β N ops S j l2 l3 uw hps Q)
    (h:∀ junk,nS P β N junk ops (bY (cr is.length os 0)) is fr S (aQ uw)=some (uw,owed (cr is.length os 0)):=by intro _;kernel_rfl) (hl:l'=is.map (fun i=>(true,i))++l3:=by rfl):xD P β N ops S j l2 l' fr hps Q:=by
  intro junk w hS
  subst hl
  have h0:=h junk
  unfold nS at h0
  split at h0
  ·rename_i mW S1 h1
   injection h0 with h0
   injection h0 with ha hb
   have hK:=K (lk mW junk) w hS
   rw [← ha,← jr] at hK
   refine vS h1 (fun p hp=>?_) rfl rfl hK
   rw [hb] at hp
   exact (oR _).mem hp
  cases h0
def gh (P:Program) (β:Bs) (N:dm) (ops:Array Oper) (Q:Post) (S:List HP) (G:List HP->Prop) (dj:Nat):List (Bool×Nat×Nat)->Fr->List HP->(Fr->List HP->Prop)->Prop
  | [],fr,hps,R=>R fr hps
  | (false,i,d)::c,fr,hps,R=>(jh d (aQ fr)=false/\d≠dj)/\∃ q:Value->List HP->Prop,ic P β N ops Q i d [d,dj] fr hps q/\∀ v l,q v l->G l/\gh P β N ops Q S G dj c ((d,v)::fr) l R
  | (true,i,d)::c,fr,hps,R=>(jh d (aQ fr)=false/\d≠dj)/\∃ o v,ops[i]?=some o/\o.dst=some d/\(∀ junk,YieldsIf P ops (Sat β S) o v (bW N fr junk))/\gh P β N ops Q S G dj c ((d,v)::fr) hps R
theorem gh.step {G:List HP->Prop} {dj d:Nat} {c:List (Bool×Nat×Nat)} {R:Fr->List HP->Prop} {q:Value->List HP->Prop} (h:ic P β N ops Q i d [d,dj] fr hps q) (h1:(!jh d (aQ fr) && decide (d≠dj))=true) (K:∀ v l,q v l->G l/\gh P β N ops Q S G dj c ((d,v)::fr) l R):gh P β N ops Q S G dj ((false,i,d)::c) fr hps R:=by
  grind [ic,jh,aQ,gh]
theorem gh.read {G:List HP->Prop} {dj d:Nat} {c:List (Bool×Nat×Nat)} {R:Fr->List HP->Prop} {v:Value} (h:∀ junk,nS P β N junk ops [o_] [i] fr S (d::aQ fr)=some ((d,v)::fr,[])) (hd:(ops[i]?).map Oper.dst=some (some d)) (h1:(!jh d (aQ fr) && decide (d≠dj))=true) (K:gh P β N ops Q S G dj c ((d,v)::fr) hps R):gh P β N ops Q S G dj ((true,i,d)::c) fr hps R:=by
  simp only [Bool.and_eq_true,Bool.not_eq_true',decide_eq_true_iff] at h1
  obtain⟨o,ho,hod⟩:=Option.map_eq_some_iff.1 hd
  refine⟨h1,o,v,ho,hod,fun junk=>?_,K⟩
  have h0:=h junk
  unfold nS at h0
  split at h0
  ·rename_i mW S1 hr
   injection h0 with h0
   injection h0 with ha hb
   unfold kY at hr
   rw [ho] at hr
   simp only at hr
   repeat' split at hr
   all_goals first|(cases hr;done)|skip
   ·rename_i _ nT _ v1 T1 hrun _ hv
    unfold kY at hr
    injection hr with hr
    injection hr with hr1 hr2
    have hv1:v1=v:=by
      grind [lk,gX,cL,aQ,gI]
    refine .inl ⟨by rw [d6];exact nT,fun w' dr=>?_⟩
    rw [eX]
    obtain⟨w2,g1,_,_,g4⟩:=kN hrun (fun p hp=>by rw [hr2,hb] at hp;cases hp) (by exact dr) (fun e=>by cases e)
    obtain⟨ew,_⟩:=g4 rfl
    rw [ew] at g1
    rcases g1 with g1|⟨g1,_⟩
    all_goals grind [oQ]
   rename_i _ nT
   unfold kY at hr
   injection hr with hr
   injection hr with hr1 hr2
   have hv1:undef=v:=by
     grind [lk,gX,cL,aQ,gI]
   exact .inr ⟨by rw [d6];exact nT,hv1.symm⟩
  cases h0
theorem Og {Z S1:List HP} {pS:List Nat} (hn:aN pS=true) (hp:bp Z pS=some S1) (h X:List HP) (w:World) (_:True) (hS:Sat β (h++(X++Z)) w):Sat β S1 w:=by
  rw [← List.append_assoc] at hS
  obtain⟨β',h1,_,h3⟩:=(Sat.turn hS).t8
  exact (h3.DJ h1.le).pick hn hp
section Yq
variable {dj:Nat} {Z pj:List HP} {qj:Value->List HP->Prop} {R:Fr->List HP->Prop} {G:List HP->Prop}
theorem BS {v:Value} {junk:Nat->Value} (hv:junk dj=v) (hdj:jh dj (aQ fr)=false):bW N fr junk=bW N ((dj,v)::fr) junk:=qc fun t=>by
  rw [gI]
  by_cases e1:dj=t
  ·subst e1;rw [if_pos rfl,oU (fun hm=>by rw [jl.2 hm] at hdj;cases hdj),hv]
  rw [if_neg e1]
theorem yU {d:Nat} {v:Value} (h1:d≠dj) (hdj:jh dj (aQ fr)=false):jh dj (aQ ((d,v)::fr))=false:=by
  grind [jh,aQ,jl]
abbrev MR (c:List (Bool×Nat×Nat)):List (Bool×Nat):=c.map (fun x=>(x.1,x.2.1))
theorem yV {v:Value} {lp:List HP} (hG:∀ h X w,G h->Sat β (h++(X++Z)) w->Sat β S w) (hK:∀ f1 h1,R f1 h1->∀ junk w,Sat β (h1++(lp++Z)) w->iG P ops (NP Q) (Sat β S) l2 (bW N ((dj,v)::f1) junk) w) :
    ∀ (c:List (Bool×Nat×Nat)) (fr:Fr) (hps:List HP) (junk:Nat->Value) (w:World),jh dj (aQ fr)=false->gh P β N ops Q S G dj c fr hps R->junk dj=v->Sat β (hps++(lp++Z)) w->iG P ops (NP Q) (Sat β S) (MR c++l2) (bW N fr junk) w
  | [],fr,hps,junk,w,hdj,hc,hv,hS=>by
    show iG _ _ _ _ l2 _ _
    rw [BS hv hdj]
    exact hK fr hps hc junk w hS
  | (false,i,d)::c,fr,hps,junk,w,hdj,⟨⟨h1,h2⟩,q,h3,h4⟩,hv,hS=>by
    show iG _ _ _ _ ((false,i)::(MR c++l2)) _ _
    unfold iG
    refine h3.at_ (X:=[]) hS (fun v' l j2 w' g1 g2 g3 g4=>?_)
    obtain⟨k1,k2⟩:=h4 v' l g1
    refine⟨.inr (hG l lp w' k1 g4),?_⟩
    rw [BS g2 h1]
    exact yV hG hK c _ l j2 w' (yU h2 hdj) k2 ((g3 dj (by simp) (fun e=>h2 e.symm)).trans hv) g4
  | (true,i,d)::c,fr,hps,junk,w,hdj,⟨⟨h1,h2⟩,o,v',h3,h4,h5,h6⟩,hv,hS=>by
    show iG _ _ _ _ ((true,i)::(MR c++l2)) _ _
    unfold iG
    refine⟨o,v',h3,h5 junk,?_⟩
    rw [h4,dU]
    exact yV hG hK c _ hps junk w (yU h2 hdj) h6 hv hS
theorem yX {j:Nat} (hG:∀ h X w,G h->Sat β (h++(X++Z)) w->Sat β S w) (hK:∀ f1 h1,R f1 h1->∀ v lp,qj v lp->∀ junk w,Sat β (h1++(lp++Z)) w->iG P ops (NP Q) (Sat β S) l2 (bW N ((dj,v)::f1) junk) w) :
    ∀ (c:List (Bool×Nat×Nat)) (fr:Fr) (hps:List HP) (junk:Nat->Value) (w:World),aN (c.map (·.2.2))=true->jh dj (aQ fr)=false->ic P β N ops Q j dj (dj::c.map (·.2.2)) fr pj qj->gh P β N ops Q S G dj c fr hps R->G hps->Sat β (hps++(pj++Z)) w->pu P ops (NP Q) (Sat β S) j l2 (MR c) (bW N fr junk) w
  | [],fr,hps,junk,w,_,hdj,hj,hc,hg,hS=>by
    show wpOp P ops (NP Q) j _ _ _
    refine hj.at_ (X:=hps) hS (fun v l j2 w' g1 g2 g3 g4=>⟨hG hps l w' hg g4,?_⟩)
    rw [BS g2 hdj]
    exact hK fr hps hc v l g1 j2 w' g4
  | (false,i,d)::c,fr,hps,junk,w,hnd,hdj,hj,hc,hg,hS=>by
    have hc0:=hc
    obtain⟨⟨h1,h2⟩,q,h3,h4⟩:=hc
    have hout:d∉aQ fr:=fun hm=>by rw [jl.2 hm] at h1;cases h1
    have rJ:d∉c.map (·.2.2)/\aN (c.map (·.2.2))=true:=by
      have hx:aN (d::c.map (·.2.2))=true:=hnd
      unfold aN at hx
      simp only [Bool.and_eq_true] at hx
      exact⟨fun hm=>by have h:=hx.1;simp_all,hx.2⟩
    refine⟨h3.at_ (X:=[]) hS (fun v' l j2 w' g1 g2 g3 g4=>?_),hj.at_ (X:=hps) hS (fun v l j2 w' g1 g2 g3 g4=>⟨hG hps l w' hg g4,?_⟩)⟩
    ·obtain⟨k1,k2⟩:=h4 v' l g1
     refine⟨hG l pj w' k1 g4,?_⟩
     rw [BS g2 h1]
     exact yX hG hK c _ l j2 w' rJ.2 (yU h2 hdj) (hj.grow hout h2 rJ.1 v') k2 k1 g4
    exact yV hG (fun f1 h1 hr=>hK f1 h1 hr v l g1) ((false,i,d)::c) fr hps j2 w' hdj hc0 g2 g4
  | (true,i,d)::c,fr,hps,junk,w,hnd,hdj,hj,⟨⟨h1,h2⟩,o,v',h3,h4,h5,h6⟩,hg,hS=>by
    have hout:d∉aQ fr:=fun hm=>by rw [jl.2 hm] at h1;cases h1
    have rJ:d∉c.map (·.2.2)/\aN (c.map (·.2.2))=true:=by
      have hx:aN (d::c.map (·.2.2))=true:=hnd
      unfold aN at hx
      simp only [Bool.and_eq_true] at hx
      exact⟨fun hm=>by have h:=hx.1;simp_all,hx.2⟩
    show pu _ _ _ _ _ _ ((true,i)::MR c) _ _
    unfold pu
    refine⟨o,v',h3,h5 junk,?_⟩
    rw [h4,dU]
    exact yX hG hK c _ hps junk w rJ.2 (yU h2 hdj) (hj.grow hout h2 rJ.1 v') h6 hg hS
theorem xD.beside {j:Nat} {pc:List HP} (pk:List Nat) (G:List HP->Prop) (c:List (Bool×Nat×Nat)) (hn:aN pk=true) (hp:bp hps pk=some (pc++(pj++Z))) (hl:l=MR c) (hG:∀ h X w,G h->Sat β (h++(X++Z)) w->Sat β S w) (hg:G pc) (hnd:aN (c.map (·.2.2))=true) (hdj:jh dj (aQ fr)=false)
    (hj:ic P β N ops Q j dj (dj::c.map (·.2.2)) fr pj qj) (hc:gh P β N ops Q S G dj c fr pc R)
    (K:∀ f1 h1,R f1 h1->∀ v lp,qj v lp->bZ P β N ops S l2 ((dj,v)::f1) (h1++(lp++Z)) Q):xD P β N ops S j l2 l fr hps Q:=by
  intro junk w hS
  subst hl
  exact yX hG (fun f1 h1 hr v lp hv junk w hS=>K f1 h1 hr v lp hv junk w hS) c fr pc junk w hnd hdj hj hc hg (hS.pick hn hp)
end Yq
end mix
end
end Go.Proofs.YtnipofpbcggjcaaGreat
