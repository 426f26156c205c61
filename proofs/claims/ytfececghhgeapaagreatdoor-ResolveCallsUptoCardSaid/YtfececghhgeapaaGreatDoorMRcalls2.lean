/-
  PROVED HERE: lemmas and contracts of functions (texts of this repo, joined; what the claim does not use is left out): GM, Vs, GS, GStr, GRoot, GCheck, GE, GEnter, GR, GRead, GP, GRef, GW, Hm, Fw, Ms, Hn, Ho, Sb, ShelfK, Free, HeapMath, Up, Down, PushPop, TabMath, Tab, Tq, TKt, TabT, Hp, Hs, Hi, Hj, Hk, Hl, Hq, Hr, Ht.
  CONDITIONS: as the theorems say.
-/
import Derived.Test.YtfececghhgeapaaGreatDoorMRcalls1
import Derived.Scope
import Derived.Lib.DecodeN
import Derived.Lib.SpaceUEq
import Derived.Lib.QuoteLoop
import Derived.Maps.OwnOps
import Derived.Shelf.SlGeneric
import Derived.Shelf.SlIterI.Nil
import Derived.Shelf.SortM.Plain
import Derived.Shelf.SortM.SortNone
import Derived.Ground.GgzProg
import Derived.Ground.SlgmProg
import Derived.Test.YtfececghhgeapaaGreatDoorProg
import Derived.RegionTactic
import Derived.Deep.QuietTactic
import Derived.BigQuiet
import Derived.BigRegion
import Derived.StillTailTactics
import Derived.WalkSpells
import Derived.Outline
import Derived.Deep.AppendLies
import Derived.Deep.RegionLaw
import Derived.LoopTactic
import Derived.LaidEqlPtr
set_option maxRecDepth 100000
set_option maxHeartbeats 4000000
namespace Go.Proofs.YtfececghhgeapaaGreatDoor
section
open Go.RowKit Go.Maps
theorem jf:Keyed Tryz.prog 3:=int_keyed Tryz.underlying3
theorem wQ {z:Int} (lo:-9223372036854775808<=z) (hi:z<=9223372036854775807):keyOf Tryz.prog 3 (.int .i64 z)=some (.int .i64 z):=
 keyOf_int_mk Tryz.underlying3 (WalkArith.wf_i64 d5)
def mf (g:Int->Option Value):Lit->Option Value
 |.int .i64 h=>g h
 |_=>none
theorem N8 (g:Int->Option Value) (h:Int) (v:Option Value):pZ (mf g) (.int .i64 h) v=mf (λz=>if z=h then v else g z):=by
 funext x
 unfold pZ mf
 cases x with
 |int k n=>
   by_cases hk:k=.i64
   ·subst hk
    by_cases e:n=h
    ·simp [Lit.sameKey,e]
    simp [Lit.sameKey,e]
   have e:(Lit.int k n).sameKey (.int .i64 h)=false:=by simp [Lit.sameKey,hk]
   grind
 |_=>rfl
theorem Kz:mf (λ_=>none)=λ_=>none:=by
 funext x
 unfold mf
 split<;>rfl
def up (ps:List (Int×Int)) (z:Int):Option Int:=ps.lookup z
def pf (ps:List (Int×Int)) (z:Int):Option Value:=(up ps z).map (Value.int .i64)
theorem acJ {ps:List (Int×Int)} {z:Int} {u:Value} (h:mf (pf ps) (.int .i64 z)=some u):∃y,up ps z=some y/\u=.int .i64 y:=by
 have h:(up ps z).map (Value.int .i64)=some u:=h
 cases hu:up ps z with
 |none=>rw [hu] at h;cases h
 |some y=>rw [hu] at h;cases h;exact⟨y,rfl,rfl⟩
theorem acK {ps:List (Int×Int)} {a b:Int}:mf (λz=>if z=a then some (.int .i64 b) else pf ps z)=mf (pf ((a,b)::ps)):=by
 congr 1
 grind [pf,up]
def ol (ps:List (Int×Int)):Nat->Int->Prop
 |0,z=>up ps z=none
 |k+1,z=>∃y,up ps z=some y/\ol ps k y
def Ends (ps:List (Int×Int)) (z:Int):Prop:=∃k,ol ps k z
theorem ol.uniq {ps:List (Int×Int)}:∀{k j:Nat} {z:Int},ol ps k z->ol ps j z->k=j
 |0,0,_,_,_=>rfl
 |0,j+1,z,h,h'=>by
   obtain⟨y,hy,_⟩:=h'
   have h:up ps z=none:=h
   rw [h] at hy
   cases hy
 |k+1,0,z,h',h=>by
   obtain⟨y,hy,_⟩:=h'
   have h:up ps z=none:=h
   rw [h] at hy
   cases hy
 |k+1,j+1,z,⟨y,hy,h⟩,⟨y',hy',h'⟩=>by
   rw [hy] at hy'
   cases hy'
   rw [ol.uniq h h']
theorem LZ {ps:List (Int×Int)} {z x:Int} (h:¬x=z):up (ps.filter (λp=>!(p.1 == z))) x=up ps x:=by
 unfold up
 induction ps with
 |nil=>rfl
 |cons p ps ih=>
   grind
theorem ol.le:∀(k:Nat) {ps:List (Int×Int)} {z:Int},ol ps k z->k<=ps.length
 |0,_,_,_=>L4 _
 |k+1,ps,z,h=>by
   have h0:=h
   obtain⟨y,hy,hk⟩:=h0
   have hl:(ps.filter (λp=>!(p.1 == z))).length+1<=ps.length:=by
    have hm:∃b,(z,b)∈ps:=by
     unfold up at hy
     clear hk h
     induction ps with
     |nil=>cases hy
     |cons p ps ih=>
       obtain⟨a,b⟩:=p
       rw [List.lookup_cons] at hy
       by_cases e:z=a
       ·subst e;exact⟨b,T5 ..⟩
       have h1:(z == a)=false:=by simp [e]
       rw [h1] at hy
       obtain⟨c,hc⟩:=ih hy
       exact⟨c,T4 _ hc⟩
    obtain⟨b,hb⟩:=hm
    have h1:(ps.filter (λp=>!(p.1 == z))).length<ps.length:=by
     rw [List.length_filter_lt_length_iff_exists]
     exact⟨(z,b),hb,nh⟩
    omega
   have aux:∀(j:Nat) (x:Int),j<=k->ol ps j x->ol (ps.filter (λp=>!(p.1 == z))) j x:=by
    intro j
    induction j with
    |zero=>
      intro x _ hx
      have hx':up ps x=none:=hx
      have:¬x=z:=λe=>by subst e;rw [hx'] at hy;cases hy
      show up _ x=none
      rw [LZ this]
      exact hx'
    |succ j ih=>
      intro x hj hx
      have:¬x=z:=λe=>by
       subst e
       have:=ol.uniq hx h
       omega
      obtain⟨u,hu,hx'⟩:=hx
      exact⟨u,by rw [LZ this];exact hu,ih u d5 hx'⟩
   have:=ol.le k (aux k y (N6 _) hk)
   omega
inductive Way (ps:List (Int×Int)) (z0:Int):List Int->Int->Prop
 |nil:Way ps z0 [] z0
 |snoc {w:List Int} {x y:Int}:Way ps z0 w x->up ps x=some y->Way ps z0 (w++[x]) y
theorem Ends.step {ps:List (Int×Int)} {x y:Int} (h:up ps x=some y) (hy:Ends ps y):Ends ps x:=let ⟨k,hk⟩:=hy;⟨k+1,y,h,hk⟩
theorem Way.ends {ps:List (Int×Int)} {z0 y:Int} {w:List Int} (h:Way ps z0 w y) (hy:Ends ps y):Ends ps z0/\∀x,x∈w->Ends ps x:=by
 induction h with
 |nil=>exact⟨hy,λx hx=>by cases hx⟩
 |snoc hw hu ih=>
   grind [Ends.step]
theorem Way.long {ps:List (Int×Int)} {z0 y:Int} {w:List Int} (h:Way ps z0 w y):∀{k:Nat},ol ps k z0->∃j,k=w.length+j/\ol ps j y:=by
 induction h with
 |nil=>intro k hk;exact⟨k,nh,hk⟩
 |snoc hw hu ih=>
   intro k hk
   obtain⟨j,hj,h⟩:=ih hk
   cases j with
   |zero=>
     have h:up ps _=none:=h
     rw [hu] at h
     cases h
   |succ j=>
     grind [ol]
theorem Way.never {ps:List (Int×Int)} {z0 y:Int} {w:List Int} (h:Way ps z0 w y) (hl:ps.length<w.length):¬Ends ps z0:=λ⟨k,hk⟩=>by
 obtain⟨j,hj,_⟩:=h.long hk
 have:=ol.le k hk
 omega
def CH (ps:List (Int×Int)):Prop:=∀z,Ends ps z
noncomputable instance (ps:List (Int×Int)):Decidable (CH ps):=Classical.propDecidable _
def j9 (w:List Int):List Value:=w.map (Value.int .i64)
theorem aI.afZ {e:TypeId} {A:Option Addr} {n cap:Nat} {w2:List Int} {j:Nat} (hj:j<w2.length):∀F w,(aI e 1 A n cap (j9 w2)).h F w->w.cell? ⟨bG A,bE A+j*1,none⟩=some (.int .i64 (w2.getD j 0)):=by
 intro F w h
 have hl:=(aI.len h).1
 have hx:(j9 w2)[j]?=some (.int .i64 (w2.getD j 0)):=by
  grind [j9,getD_some]
 obtain⟨g,rfl⟩:=aI.head h gn
 have:=aI.cell hx F w h
 grind [aI,j9,bG,bE]
def ff (fs:List Int) (z:Int):Option Value:=if z∈fs then some (.int .i64 1) else none
theorem adY:mf (ff [])=λ_=>none:=by
 rw [←Kz]
 congr 1
theorem adZ (fs:List Int) (h:Int):pZ (mf (ff fs)) (.int .i64 h) (some (.int .i64 1))=mf (ff (h::fs)):=by
 rw [N8]
 congr 1
 grind [ff]
theorem TU {ps:List (Int×Int)} {left:Lit->Bool} {z:Int} (hd:∀x y,up ps x=some y->left (.int .i64 x)=false->Ends ps x) (hz:Ends ps z) :
 ∀x y,up ps x=some y->(left (.int .i64 x) && !(Lit.int .i64 x).sameKey (.int .i64 z))=false->Ends ps x:=by
 intro x y hx h
 by_cases e:x=z
 ·rw [e];exact hz
 refine hd x y hx ?_
 simpa [Lit.sameKey,e] using h
theorem Zh {fn zO m L cnt cnt':Nat} (h:fn<=(L-cnt)*(L+2)) (h2:zO<=fn+m) (hm:m<=L+1) (hc:cnt'<cnt) (hL:cnt<=L):zO<=(L-cnt')*(L+2):=by
 have h1:(L-cnt+1)*(L+2)<=(L-cnt')*(L+2):=Nat.mul_le_mul_right _ d5
 rw [Nat.add_mul,Nat.one_mul] at h1
 omega
theorem abN {ps:List (Int×Int)} {z y:Int} (h:up ps z=some y):mf (pf ps) (.int .i64 z)=some (.int .i64 y):=by
 grind [up,mf,pf]
theorem Dk {ps:List (Int×Int)} {z:Int} (h:up ps z=none):mf (pf ps) (.int .i64 z)=none:=by
 grind [up,mf,pf]
theorem R5 {w:List Int} {x lo hi:Int} (h:∀y,y∈w->lo<=y/\y<=hi) (hx:lo<=x/\x<=hi):∀y,y∈w++[x]->lo<=y/\y<=hi:=by
 grind
theorem N9 {ps:List (Int×Int)} {z0 x:Int} {w:List Int} (h:Way ps z0 w x) (hu:up ps x=none):Ends ps z0/\∀y,y∈w++[x]->Ends ps y:=by
 have hx:Ends ps x:=⟨0,hu⟩
 obtain⟨h1,h2⟩:=h.ends hx
 grind
theorem H8 {w:List Int} {j:Nat} (h:j<w.length):w.getD j 0∈w:=by
 grind
end
section
open Go.RowKit
section scope
variable {P:Program} {β:Bs} {N:fP} {fr:Fr} {ay:List HP} {Q:Post} {c:Code} {id:Nat}
theorem av.scope (h:av P β N c fr ay (Exit.noGoto Q)):av P β N (.scope c) fr ay Q:=λar w hS=>wp_scope_straight (h ar w hS)
theorem aF.H9 (h:aF β N Q .ret fr ay):aF β N (Exit.noGoto Q) .ret fr ay:=λar w hS=>h ar w hS
end scope
end
section
open Go.RowKit Go.Lib
def iV:ByteArray:=⟨#[47,0]⟩
def Clean (s:ByteArray):Prop:=∀j,j<s.size->¬dS s j=0/\¬dS s j=47
noncomputable instance (s:ByteArray):Decidable (Clean s):=Classical.propDecidable _
def L5 (c:Nat):Int:=if c=47 then 0 else if c=0 then 1 else -1
theorem V8 {c:Nat}:0<=L5 c↔c=47\/c=0:=by
 grind [L5]
theorem Jh {s:ByteArray} {j:Nat} (h:j<s.size):(s.get! j).toNat=dS s j:=by
 have h1:j<s.data.size:=h
 have e:s.get! j=s.data[j]:=getElem!_pos s.data j h1
 unfold dS
 rw [Array.getD_eq_getD_getElem?,Array.getElem?_eq_getElem h1,e]
 rfl
theorem sI {s:ByteArray} {pos:Nat} (h:pos<s.size):1<=(Utf8.decode s pos).2/\pos+(Utf8.decode s pos).2<=s.size/\(((Utf8.decode s pos).1=47\/(Utf8.decode s pos).1=0)↔(dS s pos=47\/dS s pos=0))/\(∀j,pos<j->j<pos+(Utf8.decode s pos).2->128<=dS s j) ∧
 ((Utf8.decode s pos).1<55296\/(57343<(Utf8.decode s pos).1/\(Utf8.decode s pos).1<=1114111)):=by
 have h0:(s.get! pos).toNat<256:=(s.get! pos).toNat_lt
 have hb:=Jh h
 have c1:=decodeN_conts (s.size-pos) (s.get! pos).toNat (s.get! (pos+1)).toNat (s.get! (pos+2)).toNat (s.get! (pos+3)).toNat
 have c2:=decodeN_width_le (s.size-pos) (s.get! pos).toNat (s.get! (pos+1)).toNat (s.get! (pos+2)).toNat (s.get! (pos+3)).toNat d5
 have c3:=decodeN_valid (s.size-pos) (s.get! pos).toNat (s.get! (pos+1)).toNat (s.get! (pos+2)).toNat (s.get! (pos+3)).toNat h0
 have c4:=decodeN_ge1 (s.size-pos) (s.get! pos).toNat (s.get! (pos+1)).toNat (s.get! (pos+2)).toNat (s.get! (pos+3)).toNat
 have c5:(decodeN (s.size-pos) (s.get! pos).toNat (s.get! (pos+1)).toNat (s.get! (pos+2)).toNat (s.get! (pos+3)).toNat).1<128->(decodeN (s.size-pos) (s.get! pos).toNat (s.get! (pos+1)).toNat (s.get! (pos+2)).toNat (s.get! (pos+3)).toNat).1=(s.get! pos).toNat:=by
  intro h
  by_cases h1:(s.get! pos).toNat<128
  ·rw [decodeN_ascii _ _ _ _ _ h1]
  exfalso
  unfold decodeN at h
  grind
 have c6:(s.get! pos).toNat<128->(decodeN (s.size-pos) (s.get! pos).toNat (s.get! (pos+1)).toNat (s.get! (pos+2)).toNat (s.get! (pos+3)).toNat).1=(s.get! pos).toNat:=λh1=>by rw [decodeN_ascii _ _ _ _ _ h1]
 rw [←decode_at] at c1 c2 c3 c4 c5 c6
 grind [Jh]
theorem Zi {c:Nat} (h:128<=c) (hv:c<55296\/(57343<c/\c<=1114111)):2<=(Utf8.encode (c:Int)).size/\(Utf8.encode (c:Int)).size<=4/\128<=dS (Utf8.encode (c:Int)) ((Utf8.encode (c:Int)).size-1):=by
 have hval:Utf8.valid (c:Int)=true:=by
  unfold Utf8.valid
  simp
  omega
 unfold Utf8.encode
 simp only [hval,if_true,aiH]
 rw [nw d5]
 split
 ·refine⟨N6 _,ais rfl,?_⟩
  show 128<=(UInt8.ofNat (0x80+c % 64)).toNat
  rw [UInt8.toNat_ofNat'];omega
 split
 ·refine⟨ais rfl,ais rfl,?_⟩
  show 128<=(UInt8.ofNat (0x80+c % 64)).toNat
  rw [UInt8.toNat_ofNat'];omega
 refine⟨ais rfl,ais rfl,?_⟩
 show 128<=(UInt8.ofNat (0x80+c % 64)).toNat
 rw [UInt8.toNat_ofNat'];omega
theorem KA {s:ByteArray}:0<=Lib.indexAny s.data.toList iV.data.toList↔¬Clean s:=by
 have key:∀x:UInt8,iV.data.toList.contains x=true↔(x.toNat=0\/x.toNat=47):=by
  intro x
  have e1:(x=47)↔x.toNat=47:=⟨λh=>by rw [h];rfl,λh=>aiI.1 h⟩
  have e2:(x=0)↔x.toNat=0:=⟨λh=>by rw [h];rfl,λh=>aiI.1 h⟩
  show ([47,0]:List UInt8).contains x=true↔_
  simp only [List.contains_cons,List.contains_nil,Bool.or_false,Bool.or_eq_true,ai0]
  rw [e1,e2]
  omega
 constructor
 ·intro h hc
  have:Lib.indexAny s.data.toList iV.data.toList = -1:=Lib.indexAny_none (λj b hj hb=>by
   obtain⟨h1,h2⟩:=ED hb
   have h3:=hc j h1
   cases hx:iV.data.toList.contains b with
   |false=>rfl
   |true=>have:=(key b).1 hx;omega)
  omega
 intro h
 refine Decidable.byContradiction (λhn=>h ?_)
 have aux:∀i,i<=s.size->Lib.NoAny s.data.toList iV.data.toList i:=by
  intro i
  induction i with
  |zero=>intro _;exact Lib.NoAny.zero _ _
  |succ i ih=>
    intro hi
    have hx:=xC (show i<s.size by omega)
    refine (ih d5).succ hx ?_
    cases hc:iV.data.toList.contains (s.data.getD i 0) with
    |false=>rfl
    |true=>
      have:=Lib.indexAny_hit (ih d5) hx hc
      omega
 intro j hj
 have h1:=aux s.size (N6 _) j (s.data.getD j 0) hj (xC hj)
 have h2:=mt (key (s.data.getD j 0)).2 (by rw [h1];exact Bool.false_ne_true)
 unfold dS
 omega
theorem Ia {β:Bs} (s:ByteArray) (h8:8<s.size) (hs:s.size<=1048576):aU Tryz.prog β 170 #[.string s,.string iV] [] (λv l=>(∃x:Int,v=.int .i64 x/\(0<=x↔¬Clean s))/\l=[]):=by
 intro R w hS
 refine (Tryz.strings_IndexAny_long (zero_of_info (n:=256) d6).1 s iV w d8 h8 d5 d8 (by
  intro j b hb
  have:j<2:=by grind [dH,iV]
  have h:j=0\/j=1:=d5
  rcases h with rfl|rfl
  ·have:b=47:=by simpa [iV] using hb.symm
   subst this;decide
  have:b=0:=by simpa [iV] using hb.symm
  subst this;decide)).mono ?_
 rintro e w' ⟨rfl,rfl⟩
 exact⟨_,[],rfl,⟨⟨_,rfl,KA⟩,rfl⟩,hS.quiet (((cL.refl _ _).alloc _).alloc _)⟩
theorem V9:∀c:Fin 128,Lib.indexByte [47,0] ((c.val:Int).toNat.toUInt8)=L5 c.val:=d8
theorem acL {pos:Nat} (h:pos<iV.size):(Utf8.decode iV pos).1=47\/(Utf8.decode iV pos).1=0:=by
 refine (sI h).2.2.1.2 ?_
 have h:pos<2:=h
 have:pos=0\/pos=1:=d5
 rcases this with rfl|rfl
 ·exact .inl rfl
 exact .inr rfl
theorem Wa (i:Nat):dS iV i<128:=by
 unfold dS iV
 match i with
 |0=>decide
 |1=>decide
 |n+2=>exact (by decide:(0:UInt8).toNat<128)
theorem ad0 {c:Nat} (hv:c<55296\/(57343<c/\c<=1114111)):Lib.validRune (c:Int)=true:=by
 unfold Lib.validRune
 exact aio d5
theorem Oa {β:Bs} {c:Nat} (hv:c<55296\/(57343<c/\c<=1114111)):aU Tryz.prog β 176 #[.int .i32 ((c:Nat):Int)] [] (λv l=>v=.bool true/\l=[]):=
 aU.quiet (λw=>(Tryz.utf8_ValidRune _ w).mono (λ_ _ ⟨h1,h2⟩=>⟨h1.trans (by rw [ad0 hv]),h2⟩))
theorem Ib {β:Bs} {i:Nat} (hi:1<=i) (b:Int):aU Tryz.prog β 165 #[.string (iV.extract (i+1) iV.size),.int .u8 b] [] (λv l=>v=.int .i64 (-1)/\l=[]):=
 aU.quiet (λw=>(Tryz.strings_IndexByte _ b w).mono (λ_ _ ⟨h1,h2⟩=>⟨h1.trans (by
  have h0:(iV.extract (i+1) iV.size).size=0:=by
   rw [aiU]
   have:iV.size=2:=rfl
   omega
  rw [tf.1 h0]
  rfl),h2⟩))
theorem Ic {β:Bs} {c:Nat} (h:c<128):aU Tryz.prog β 172 #[.string iV,.int .i32 ((c:Nat):Int)] [] (λv l=>v=.int .i64 (L5 c)/\l=[]):=
 aU.quiet (λw=>(Tryz.strings_IndexRune_ascii iV _ w d5 d5).mono (λ_ _ ⟨h1,h2⟩=>⟨h1.trans (zc (λx=>Ending.returned (.int .i64 x)) (V9 ⟨c,h⟩)),h2⟩))
theorem Zj {c:Nat} (h:128<=c):L5 c = -1:=by
 grind [L5]
theorem pq {s:ByteArray}:bW s↔1<=s.size/\s.size<=255/\¬s=⟨#[46]⟩/\¬s=⟨#[46,46]⟩/\Clean s:=Iff.rfl
end
section
open Go.RowKit
attribute [local irreducible] aB bJ av aF
theorem GH {β:Bs} (c:Nat) (h128:128<=c) (hv:c<55296\/(57343<c/\c<=1114111)) :
 aU Tryz.prog β 172 #[.string iV,.int .i32 ((c:Nat):Int)] [] (λv l=>v=vI (-1)/\l=[]):=by
 have he:=Zi h128 hv
 refine SE Tryz.func172 Tryz.ntmps172 (λR=>SR (jK 1 [] [] (NN (av.block (SR (jK 3 [163] [] (sP 163 ((0:Int)<=(((c:Nat):Int):Int)) (λad1=>jK 4 [160] [] (NN (cP ((((c:Nat):Int):Int)<(128:Int)) (λad2=>KB ad2 (by omega)) (λad2=>SR (jK 3 [171] [] (NN (cP ((((c:Nat):Int):Int)=(65533:Int)) (λagJ=>?_) (λagJ=>?_)))))))) (λad1=>KB ad1 (by omega)))))))))
 ·refine SQ (jK 1 [174] [] (aB.NJ (d:=(some 175)) (t:=9) (x:=(.tmp 174)) (s:=iV) (λ_=>d6) (λ_=>d6) Tryz.underlying9 (λr1=>NN (av.block (lJ (λ(pos:Nat)=>(pos<=2)) (λ(pos:Nat)=>2-pos) (λ(pos:Nat)=>[(175,vP r1)]) (λ(pos:Nat)=>[.abs (Da r1 iV pos),.abs R]) 0 [1,0] (L4 _) ?_)))))
  rintro pos hp
  refine SR ?_
  rcases Nat.lt_or_ge pos ((iV:ByteArray).size) with hpos|hpos
  ·exact aB.RY 0 (d:=(some 176)) (r:=r1) (s:=iV) (pos:=pos) (x:=(.tmp 175)) (λ_=>d6) d6 (λ_=>d6) hpos (jK 1 [177] [] (NN (av.seq (CT (KX (av.block (SR (jK 4 [5,6] [] (NS (jK 2 [181] [] (NN (cP (((((Utf8.decode iV pos).1:Nat):Int):Int)=(65533:Int)) (λad3=>KB ad3 (by have:=acL hpos;omega)) (λad3=>av.skip (aF.j8 (tJ (pos+(Utf8.decode iV pos).2) [0,1] ((by have:=(sI (s:=iV) hpos).2.1;have:iV.size=2:=rfl;omega)) (hm:=by show 2-(pos+(Utf8.decode iV pos).2)<2-pos;have h1:=(sI (s:=iV) hpos).1;have h2:iV.size=2:=rfl;omega))))))))))))))))
  exact aB.VR 0 (d:=(some 176)) (r:=r1) (s:=iV) (pos:=pos) (x:=(.tmp 175)) (λ_=>d6) d6 (λ_=>d6) (Nat.not_lt.2 hpos) (jK 1 [177] [] (NN (av.seq (CF (XX (zR ⟨rfl,rfl⟩ [1]))))))
 refine SR (jK 1 [184] [] (gE [] (Oa hv) (jK 2 [183] [] (NF (av.scope (SR (jK 3 [7] [] (NS (jK 4 [8] [(2,wJ (((((Utf8.encode (c:Int)):ByteArray).size:Nat):Int)-1) (↑((Utf8.encode ((c:Nat):Int)).size-1)))] (NS (jK 2 [9] [] (NS (jK 1 [] [] (NN (av.seq (av.block (lJ (λ(i:Nat)=>(i=(Utf8.encode ((c:Nat):Int)).size-1)) (λ(i:Nat)=>0) (λ(i:Nat)=>[(0,.string iV),(7,.string (Utf8.encode ((c:Nat):Int))),(8,vI ↑((Utf8.encode ((c:Nat):Int)).size-1)),(9,vI ↑i)]) (λ(i:Nat)=>[.abs R]) (((Utf8.encode ((c:Nat):Int)).size-1)) [0] (rfl) ?_)))))))))))))))))
 rintro i hi
 exact SQ (jK 4 [26] [] (NN (cP ((((i:Nat):Int):Int)<((((iV:ByteArray).size:Nat):Int):Int)) (λwq=>KX (av.block (av.scope (av.seq (av.seq (rQ (jQ 7 [33] [(2,xP i (i<(iV:ByteArray).size)),(5,xP ((Utf8.encode ((c:Nat):Int)).size-1) (((Utf8.encode ((c:Nat):Int)).size-1)<((Utf8.encode ((c:Nat):Int)):ByteArray).size))] (NQ (NX (cN ((((((iV:ByteArray).data.getD (i) 0).toNat:Nat):Int):Int)=((((((Utf8.encode ((c:Nat):Int)):ByteArray).data.getD (((Utf8.encode ((c:Nat):Int)).size-1)) 0).toNat:Nat):Int):Int)) (λL6=>av.seq (rQ (jQ 7 [37,40] [(2,wJ ((i:Int)+1) (↑(i+1))),(3,xP (i+1) (i+1<=(iV:ByteArray).size)),(6,xP ((Utf8.encode ((c:Nat):Int)).size-1) (((Utf8.encode ((c:Nat):Int)).size-1)<((Utf8.encode ((c:Nat):Int)):ByteArray).size))] (zH [] [0] (.int .i64 (-1)) (Ib (i:=i) (by have:iV.size=2:=rfl;omega) (((((Utf8.encode ((c:Nat):Int)):ByteArray).data.getD (((Utf8.encode ((c:Nat):Int)).size-1)) 0).toNat:Nat):Int)) (jQ 1 [11] [] (NQ (NX (SQ (jK 2 [43] [] (NT (SR (jK 1 [4] [] (NN (av.ret (aF.br (aF.br (aF.H9 (aF.fM (aF.br (aF.fM (aF.br (aF.H9 (aF.fM (RT _ [0] (⟨rfl,rfl⟩))))))))))))))))))))))))) (λL6=>KB L6 (by have h1:=Wa i;grind [dS])))))))))))) (λwq=>XX (SQ (jK 1 [4] [] (NN (av.ret (aF.br (aF.H9 (aF.fM (RT _ [0] (⟨rfl,rfl⟩)))))))))))))
theorem Ob {β:Bs} (c:Nat) (hv:c<55296\/(57343<c/\c<=1114111)) :
 aU Tryz.prog β 172 #[.string iV,.int .i32 ((c:Nat):Int)] [] (λv l=>v=vI (L5 c)/\l=[]):=by
 rcases Nat.lt_or_ge c 128 with h|h
 ·exact Ic h
 rw [Zj h]
 exact GH c h hv
theorem GI {β:Bs} (s:ByteArray) (h8:s.size<=8) :
 aU Tryz.prog β 170 #[.string s,.string iV] [] (λv l=>(∃x:Int,v=vI x/\(0<=x↔¬Clean s))/\l=[]):=by
 refine SE Tryz.func170 Tryz.ntmps170 (λR=>SR (jK 1 [] [] (NZ (jK 2 [12] [(1,w_ (.bool (decide ((iV:ByteArray)=⟨#[]⟩))) (qH _ _))] (NN (cP ((iV:ByteArray)=⟨#[]⟩) (λh12=>KB h12 (by decide)) (λh12=>KX (SQ (jK 3 [15] [] (NN (cP (((((iV:ByteArray).size:Nat):Int):Int)=(1:Int)) (λR6=>KB R6 (by decide)) (λR6=>KX (SQ (jK 2 [25] [] (gE [] (aU.quiet (λw=>Tryz.strings_shouldUseASCIISet ((s.size:Nat):Int) w)) (NN (cP ((8:Int)<((s.size:Nat):Int)) (λwq=>KB wq (by omega)) (λwq=>KX (SQ (jK 1 [44] [] (aB.NJ (d:=(some 45)) (t:=9) (x:=(.tmp 44)) (s:=s) (λ_=>d6) (λ_=>d6) Tryz.underlying9 (λr2=>NN (av.block (lJ (λ(pos:Nat)=>(pos<=s.size)/\(∀j,j<pos->¬dS s j=0/\¬dS s j=47)) (λ(pos:Nat)=>s.size-pos) (λ(pos:Nat)=>[(1,.string iV),(45,vP r2)]) (λ(pos:Nat)=>[.abs (Da r2 s pos),.abs R]) 0 [1,0] (⟨L4 _,λj hj=>KB hj (N5 j)⟩) ?_))))))))))))))))))))))))
 rintro pos ⟨hp,jD⟩
 refine SR ?_
 rcases Nat.lt_or_ge pos ((s:ByteArray).size) with hpos|hpos
 ·exact aB.RY 0 (d:=(some 46)) (r:=r2) (s:=s) (pos:=pos) (x:=(.tmp 45)) (λ_=>d6) d6 (λ_=>d6) hpos (jK 1 [47] [] (NN (av.seq (CT (KX (av.block (SR (jK 4 [9,10] [] (NS (jK 2 [50,51] [] (gE [] (Ob (Utf8.decode s pos).1 (sI hpos).2.2.2.2) (jK 1 [53] [] (NN (cP ((L5 (Utf8.decode s pos).1:Int)>=(0:Int)) (λR3=>zR (v:=(vI ↑pos)) ⟨⟨_,rfl,⟨λ_ hc=>by have h1:=V8.1 R3;have h2:=(sI hpos).2.2.1.1 h1;have:=hc pos hpos;omega,λ_=>Int.natCast_nonneg _⟩⟩,rfl⟩ [1]) (λR3=>av.skip (aF.j8 (tJ (pos+(Utf8.decode s pos).2) [0,1] (⟨(sI hpos).2.1,λj hj=>by rcases aiS j pos with h|h|h;exact jD j h;subst h;have h1:=mt V8.2 R3;all_goals grind [sI]⟩) (hm:=by grind [sI]))))))))))))))))))
 exact aB.VR 0 (d:=(some 46)) (r:=r2) (s:=s) (pos:=pos) (x:=(.tmp 45)) (λ_=>d6) d6 (λ_=>d6) (Nat.not_lt.2 hpos) (jK 1 [47] [] (NN (av.seq (CF (XX (zR (v:=(vI (-1))) ⟨⟨_,rfl,⟨λh=>KB h (by decide),λh=>KB (λj hj=>jD j d5) h⟩⟩,rfl⟩ [1]))))))
theorem Q6 {β:Bs} (s:ByteArray) (hs:s.size<=1048576) :
 aU Tryz.prog β 170 #[.string s,.string iV] [] (λv l=>(∃x:Int,v=vI x/\(0<=x↔¬Clean s))/\l=[]):=by
 rcases Nat.lt_or_ge 8 s.size with h|h
 ·exact Ia s h hs
 exact GI s h
theorem wR {β:Bs} (s:ByteArray) (hs:s.size<=1048576) :
 aU Tryz.prog β 166 #[.string s,.string iV] [] (λv l=>v=.bool (decide (¬Clean s))/\l=[]):=by
 refine SE Tryz.func166 Tryz.ntmps166 (λR=>SR (jK 1 [] [] (NS (jK 2 [5,6] [] (gL [] (Q6 s hs) ?_)))))
 rintro _ _ ⟨⟨x,rfl,hx⟩,rfl⟩
 exact jK 2 [4] [] (eN (v:=(.bool (decide ((x:Int)>=(0:Int))))) ⟨zc Value.bool (aii.2 (by exact hx)),rfl⟩)
theorem zP {β:Bs} (s:ByteArray) (hs:s.size<=1048576) :
 aU Tryz.prog β 154 #[.string s] [] (λv l=>v=.bool (decide (bW s))/\l=[]):=by
 exact SE Tryz.func154 Tryz.ntmps154 (λR=>SR (jK 1 [] [] (NZ (jK 1 [3] [] (NN (av.block (SQ (jK 2 [4] [(0,w_ (.bool (decide ((s:ByteArray)=⟨#[]⟩))) (qH _ _))] (NN (cP ((s:ByteArray)=⟨#[]⟩) (λh4=>KX (cP ((s:ByteArray)=⟨#[]⟩) (λh4=>zR ⟨zc Value.bool (Lk (by grind [tf,pq])).symm,rfl⟩) (λh4=>KX (SR (jK 4 [11] [] (sP 11 (((((s:ByteArray).size:Nat):Int):Int)<=(255:Int)) (λh11=>jK 1 [12] [] (gE [] (wR s hs) (jK 3 [2] [] (eN (v:=(.bool (!(decide (¬Clean s))))) ⟨zc Value.bool (EC gn),rfl⟩)))) (λh11=>jK 5 [2] [] (eN ⟨zc Value.bool (Lk (by grind [tf,pq])).symm,rfl⟩)))))))) (λh4=>SR (jK 2 [4] [(0,w_ (.bool (decide ((s:ByteArray)=⟨#[46]⟩))) (qH _ _))] (NN (cP ((s:ByteArray)=⟨#[46]⟩) (λh4=>KX (cP ((s:ByteArray)=⟨#[46]⟩) (λh4=>zR ⟨zc Value.bool (Lk (by grind [tf,pq])).symm,rfl⟩) (λh4=>KX (SR (jK 4 [11] [] (sP 11 (((((s:ByteArray).size:Nat):Int):Int)<=(255:Int)) (λh11=>jK 1 [12] [] (gE [] (wR s hs) (jK 3 [2] [] (eN (v:=(.bool (!(decide (¬Clean s))))) ⟨zc Value.bool (EC gn),rfl⟩)))) (λh11=>jK 5 [2] [] (eN ⟨zc Value.bool (Lk (by grind [tf,pq])).symm,rfl⟩)))))))) (λh4=>av.region (jK 2 [4] [(0,w_ (.bool (decide ((s:ByteArray)=⟨#[46,46]⟩))) (qH _ _))] (NN (cP ((s:ByteArray)=⟨#[46,46]⟩) (λh4=>zR ⟨zc Value.bool (Lk (by grind [tf,pq])).symm,rfl⟩) (λh4=>KX (SR (jK 4 [11] [] (sP 11 (((((s:ByteArray).size:Nat):Int):Int)<=(255:Int)) (λh11=>jK 1 [12] [] (gE [] (wR s hs) (jK 3 [2] [] (eN (v:=(.bool (!(decide (¬Clean s))))) ⟨zc Value.bool (EC (by have h0:=tf (s:=s);rw [pq];grind)),rfl⟩)))) (λh11=>jK 5 [2] [] (eN ⟨zc Value.bool (Lk (by grind [tf,pq])).symm,rfl⟩))))))))))))))))))))))))
theorem Wb {β:Bs} (m:Nat) (ps:List (Int×Int)) (hl:ps.length<=1048576) (hw:∀z y,up ps z=some y->(-9223372036854775808<=z/\z<=9223372036854775807)/\(-9223372036854775808<=y/\y<=9223372036854775807)) :
 aU Tryz.prog β 127 #[.map (some m)] [.abs (bM Tryz.prog 3 m (mf (pf ps)) ps.length)] (λv l=>v=.bool (decide (CH ps))/\l=[]):=by
 refine SE Tryz.func127 Tryz.ntmps127 (λR=>SR (jK 1 [] [] (NS (aB.sX (d:=(some 11)) (t:=134) (λ_=>d6) Tryz.prog rfl 3 (λm1=>jK 1 [3] [] (NZ (aB.cR 2 (p':=.abs (bM Tryz.prog 3 m1 (mf (ff [])) 0)) rfl (by rw [adY]) (jK 1 [12] [] (aB.mapRange 0 (d:=(some 13)) (t:=134) (K:=3) (E:=3) (b:=m) (n:=ps.length) (f:=(mf (pf ps))) (x:=(.tmp 12)) (λ_=>d6) d6 (λ_=>d6) jf Tryz.underlying134 (λr2=>NN (av.block (lJ (λ(left,cnt,last,fs,fn)=>(cnt<=ps.length)/\(∀x y,up ps x=some y->left (.int .i64 x)=false->Ends ps x)/\(∀x,x∈fs->Ends ps x)/\(fn<=(ps.length-cnt)*(ps.length+2))) (λ(left,cnt,last,fs,fn)=>cnt) (λ(left,cnt,last,fs,fn)=>[(0,.map (some m)),(3,.map (some m1)),(13,vP r2)]) (λ(left,cnt,last,fs,fn)=>[.abs (nZ Tryz.prog 3 m r2 (mf (pf ps)) ps.length left cnt last),.abs (bM Tryz.prog 3 m1 (mf (ff fs)) fn),.abs R]) ((λkl=>((mf (pf ps)) kl).isSome),ps.length,none,[],0) [0,2,1] (⟨N6 _,λx y hx h=>(by have h:((up ps x).map (Value.int .i64)).isSome=false:=h;rw [hx] at h;cases h),λx hx=>(by cases hx),L4 _⟩) ?_))))))))))))
 rintro⟨left,cnt,last,fs,fn⟩ ⟨agK,hdone,hfs,hfn⟩
 have ox:fn<=1048576*1048578:=Pe hfn (Nat.mul_le_mul d5 d5)
 refine SR (aB.mapNext 0 (d:=(some 14)) (K:=3) (b:=m) (r:=r2) (f:=(mf (pf ps))) (n:=ps.length) (left:=left) (cnt:=cnt) (last:=last) (x:=(.tmp 13)) (λ_=>d6) d6 (λ_=>d6) jf Tryz.underlying3 (λhc0 hl0=>jK 1 [15] [] (NN (av.seq (CF (XX (zR ⟨zc Value.bool (aio (p:=CH ps) (λz=>by cases hu:up ps z with|none=>exact⟨0,hu⟩|some y=>exact hdone z y hu (hl0 _))).symm,rfl⟩ [2])))))) (λz u cnt' hlz hfz hwz agL=>?_))
 obtain⟨y,hy,rfl⟩:=acJ hfz
 refine jK 1 [15] [] (NN (av.seq (CT (KX (av.block (SR (aB.mapEntry 0 (d:=(some 16)) (K:=3) (b:=m) (r:=r2) (f:=(mf (pf ps))) (n:=ps.length) (left:=(λkl=>left kl && !kl.sameKey (.int .i64 z))) (cnt:=cnt') (v:=.tuple #[.int .i64 (z),.int .i64 (y)]) (x:=(.tmp 13)) (λ_=>d6) d6 (λ_=>d6) (jK 2 [4] [] (NS (jK 1 [5] [] (NN (av.join (ι:=(List Int)×(Option Addr)×Nat) (λ(w2,A2,c2)=>(Ends ps z)/\(∀x,x∈w2->Ends ps x)/\(w2.length<=ps.length+1)/\(∀x,x∈w2->-9223372036854775808<=x/\x<=9223372036854775807)) (λ(w2,A2,c2)=>[(0,.map (some m)),(3,.map (some m1)),(5,.slice A2 (w2.length) (c2)),(13,vP r2)]) (λ(w2,A2,c2)=>[.abs (nZ Tryz.prog 3 m r2 (mf (pf ps)) ps.length (λkl=>left kl && !kl.sameKey (.int .i64 z)) cnt' (some (.tuple #[.int .i64 (z),.int .i64 (y)]))),.abs (bM Tryz.prog 3 m1 (mf (ff fs)) fn),.abs (aI 3 1 A2 w2.length c2 (j9 w2)),.abs R]) ?_ ?_))))))))))))
 ·rintro⟨w2,A2,c2⟩ ⟨hend,af0,ah0,ad4⟩
  refine SR (jK 3 [41,42,43] [] (NN (av.block (lJ (λ(j,D9,zO)=>(j<=w2.length)/\(∀x,x∈D9->Ends ps x)/\(zO<=fn+j)) (λ(j,D9,zO)=>w2.length-j) (λ(j,D9,zO)=>[(0,.map (some m)),(3,.map (some m1)),(13,vP r2),(41,.slice A2 (w2.length) (c2)),(42,.int .i64 ↑w2.length),(43,.int .i64 ↑j)]) (λ(j,D9,zO)=>[.abs (nZ Tryz.prog 3 m r2 (mf (pf ps)) ps.length (λkl=>left kl && !kl.sameKey (.int .i64 z)) cnt' (some (.tuple #[.int .i64 (z),.int .i64 (y)]))),.abs (bM Tryz.prog 3 m1 (mf (ff D9)) zO),.abs (aI 3 1 A2 w2.length c2 (j9 w2)),.abs R]) (0,fs,fn) [0,1,2,3] (⟨L4 _,hfs,N6 _⟩) ?_))))
  rintro⟨j,D9,zO⟩ ⟨hj,ad5,agM⟩
  exact SR (jK 1 [44] [] (NN (av.seq (cP ((((j:Nat):Int):Int)<(((w2.length:Nat):Int):Int)) (λzQ=>KX (av.seq (av.block (SR (aB.tell (λw hS=>let ⟨F,h⟩:=hS.get (i:=2) rfl;(aI.I4 h d5).1) (λhA2=>jK 3 [10] [(0,x_ j w2.length (hA2)),(1,p_ ⟨[.view 2 (.int .i64 ((w2.getD j 0)))],none,none,none,none⟩ [(∀F w,(aI 3 1 A2 w2.length c2 (j9 w2)).h F w->w.cell? ⟨(bG A2),bE A2+j*1,none⟩=some (.int .i64 ((w2.getD j 0))))] ⟨aI.afZ d5,trivial⟩)] (NN (av.region (jK 2 [47,48] [] (aB.qI 1 (d:=none) (t:=134) (K:=3) (E:=3) (b:=m1) (n:=zO) (f:=(mf (ff D9))) (x:=(.tmp 47)) (ix:=(.tmp 48)) (y:=(.const (.int .i64 1))) (key:=.int .i64 ((w2.getD j 0))) (u:=.int .i64 1) (kl:=(.int .i64 (w2.getD j 0))) (n':=(if (ff D9 (w2.getD j 0)).isSome then zO else zO+1)) (f':=(mf (ff ((w2.getD j 0)::D9)))) (λ_=>d6) d6 (λ_=>d6) (λ_=>d6) (λ_=>d6) jf Tryz.underlying134 (by unfold maxLen;omega) (wQ (ad4 _ (H8 d5)).1 (ad4 _ (H8 d5)).2) (rfl) (adZ _ _) (LX (av.region (jK 2 [43] [(0,wJ ((j:Int)+1) (↑(j+1)))] (NL (tJ ((j+1),((w2.getD j 0)::D9),(if (ff D9 (w2.getD j 0)).isSome then zO else zO+1)) [0,1,2,3] (⟨d5,λx hx=>(T8.1 hx).elim (λe=>e ▸ af0 _ (H8 d5)) (ad5 x),by split<;>omega⟩)))))))))))))))) (λzQ=>av.exit (aF.o7 (aF.o7 (aF.wL (aF.j8 (tJ ((λkl=>left kl && !kl.sameKey (.int .i64 z)),cnt',(some (.tuple #[.int .i64 (z),.int .i64 (y)])),D9,zO) [0,1,3] (⟨d5,TU hdone hend,ad5,Zh hfn agM d5 agL agK⟩)))))))))))
 refine SR (aB.mem (λw hS=>hS.nN (e:=3) (size:=1)) (jK 2 [6] [] (NN (av.block (lJ (λ(at_,w,Aw,cw)=>(Way ps z w at_)/\(w.length<=ps.length)/\(∀x,x∈w->-9223372036854775808<=x/\x<=9223372036854775807)/\(-9223372036854775808<=at_/\at_<=9223372036854775807)) (λ(at_,w,Aw,cw)=>ps.length+1-w.length) (λ(at_,w,Aw,cw)=>[(0,.map (some m)),(3,.map (some m1)),(5,.slice Aw (w.length) (cw)),(6,.int .i64 (at_)),(13,vP r2)]) (λ(at_,w,Aw,cw)=>[.abs (nZ Tryz.prog 3 m r2 (mf (pf ps)) ps.length (λkl=>left kl && !kl.sameKey (.int .i64 z)) cnt' (some (.tuple #[.int .i64 (z),.int .i64 (y)]))),.abs (bM Tryz.prog 3 m1 (mf (ff fs)) fn),.abs (aI 3 1 Aw w.length cw (j9 w)),.abs R]) (z,[],none,0) [0,1,3,2] (⟨.nil,L4 _,λx hx=>(by cases hx),(hw z y hy).1⟩) ?_)))))
 rintro⟨at_,w,Aw,cw⟩ ⟨pu,hwl,yM,gF⟩
 refine SQ (jK 2 [19,20] [] ?_)
 by_cases hfa:at_∈fs
 ·exact aB.jo 1 (d:=(some 21)) (t:=134) (K:=3) (E:=3) (b:=m1) (n:=fn) (f:=(mf (ff fs))) (x:=(.tmp 19)) (ix:=(.tmp 20)) (key:=.int .i64 (at_)) (z:=.int .i64 0) (kl:=(.int .i64 at_)) (r:=(some (.int .i64 1))) (λ_=>d6) d6 (λ_=>d6) (λ_=>d6) jf Tryz.underlying134 (λ_=>d6) (wQ gF.1 gF.2) (t8 hfa) (jK 1 [22] [] (NF (av.exit (aF.o7 (aF.o7 (aF.wL (mJ (w,Aw,cw) [0,1,2,3] (⟨(pu.ends (hfs at_ hfa)).1,(pu.ends (hfs at_ hfa)).2,d5,yM⟩))))))))
 refine aB.jo 1 (d:=(some 21)) (t:=134) (K:=3) (E:=3) (b:=m1) (n:=fn) (f:=(mf (ff fs))) (x:=(.tmp 19)) (ix:=(.tmp 20)) (key:=.int .i64 (at_)) (z:=.int .i64 0) (kl:=(.int .i64 at_)) (r:=none) (λ_=>d6) d6 (λ_=>d6) (λ_=>d6) jf Tryz.underlying134 (λ_=>d6) (wQ gF.1 gF.2) (nw hfa) (jK 1 [22] [] (NT (KX (av.block (SR (jB 3 [23,25] (λb3=>.aD b3 [.int .i64 (at_)] 3) (λb3=>mO 2 41 (some ⟨b3,0,none⟩) 1 1 [.int .i64 (at_)] rfl (gq (j:=4) rfl) (λA4 c5=>aB.cR 2 (p':=.abs (aI 3 1 A4 ((w++[at_]).length) c5 (j9 (w++[at_])))) rfl (by simp [j9]) (sl 26 (.slice A4 (w.length+1) (c5)) (.slice A4 ((w++[at_]).length) (c5)) nh (jK 1 [5] [] (NS (jK 2 [28,29] [] ?_))))))))))))
 rcases hup:up ps at_ with _|y2
 ·exact aB.GN 0 (d:=(some 30)) (t:=134) (K:=3) (E:=3) (b:=m) (n:=ps.length) (f:=(mf (pf ps))) (r:=r2) (left:=(λkl=>left kl && !kl.sameKey (.int .i64 z))) (cnt:=cnt') (last:=(some (.tuple #[.int .i64 (z),.int .i64 (y)]))) (x:=(.tmp 28)) (ix:=(.tmp 29)) (key:=.int .i64 (at_)) (z:=.int .i64 0) (kl:=(.int .i64 at_)) (u:=none) (λ_=>d6) d6 (λ_=>d6) (λ_=>d6) jf Tryz.underlying134 (λ_=>d6) (wQ gF.1 gF.2) (Dk hup) (jK 5 [7,8] [] (NZ (jK 2 [34] [] (NT (av.exit (aF.o7 (aF.VP d8 (aF.o7 (aF.wL (mJ ((w++[at_]),A4,c5) [0,1,2,3] (⟨(N9 pu hup).1,(N9 pu hup).2,by simp;omega,R5 yM gF⟩)))))))))))
 exact aB.GN 0 (d:=(some 30)) (t:=134) (K:=3) (E:=3) (b:=m) (n:=ps.length) (f:=(mf (pf ps))) (r:=r2) (left:=(λkl=>left kl && !kl.sameKey (.int .i64 z))) (cnt:=cnt') (last:=(some (.tuple #[.int .i64 (z),.int .i64 (y)]))) (x:=(.tmp 28)) (ix:=(.tmp 29)) (key:=.int .i64 (at_)) (z:=.int .i64 0) (kl:=(.int .i64 at_)) (u:=(some (.int .i64 y2))) (λ_=>d6) d6 (λ_=>d6) (λ_=>d6) jf Tryz.underlying134 (λ_=>d6) (wQ gF.1 gF.2) (abN hup) (jK 5 [7,8] [] (NZ (jK 2 [34] [] (NF (KX (SQ (jK 3 [36,37] [] (aB.YX 0 (d:=(some 38)) (t:=134) (K:=3) (E:=3) (b:=m) (n:=ps.length) (f:=(mf (pf ps))) (r:=r2) (left:=(λkl=>left kl && !kl.sameKey (.int .i64 z))) (cnt:=cnt') (last:=(some (.tuple #[.int .i64 (z),.int .i64 (y)]))) (x:=(.tmp 37)) (ats:=#[134]) (λ_=>d6) d6 (λ_=>d6) rfl Tryz.underlying134 (jK 1 [39] [] (NN (cP (((((w++[at_]).length:Nat):Int):Int)>(((ps.length:Nat):Int):Int)) (λlY=>zR ⟨zc Value.bool (Lk (p:=CH ps) (λj3=>(pu.snoc hup).never (by simp at lY ⊢;omega) (j3 z))).symm,rfl⟩ [3]) (λlY=>KX (av.region (jK 2 [6] [] (NL (aF.j8 (tJ (y2,(w++[at_]),A4,c5) [0,1,2,3] (⟨pu.snoc hup,by simp at lY ⊢;omega,R5 yM gF,(hw at_ y2 hup).2⟩) (hm:=by grind))))))))))))))))))
theorem Bk {β:Bs} (a b c:Int) :
 aU Tryz.prog β 152 #[vI (a),vI (b),vI (c)] [] (λv l=>v=.bool (decide (Within a b c))/\l=[]):=by
 exact SE Tryz.func152 Tryz.ntmps152 (λR=>SR (jK 1 [] [] (NS (jK 4 [10] [] (sP 10 ((a:Int)>=(b:Int)) (λh10=>jK 5 [6] [] (eN (v:=(.bool (decide ((a:Int)<=(c:Int))))) ⟨zc Value.bool (aii.2 (by unfold Within;omega)),rfl⟩)) (λh10=>jK 5 [6] [] (eN ⟨zc Value.bool (Lk (by unfold Within;omega)).symm,rfl⟩)))))))
theorem sj {β:Bs} (s n:Int) :
 aU Tryz.prog β 77 #[.agg #[vI (s),vI (n)]] [] (λv l=>v=.bool (decide (iU s n))/\l=[]):=by
 exact SE Tryz.func77 Tryz.ntmps77 (λR=>SR (jB 2 [1] (λb1=>.aD b1 [vI (s),vI (n)] 26) (λb1=>NZ (jK 4 [6] [(1,a_ 1 b1)] (sP 6 ((n:Int)<(0:Int)) (λh6=>jK 4 [10] [] (NT (zR ⟨zc Value.bool (Lk (by unfold iU;omega)).symm,rfl⟩))) (λh6=>jK 4 [10] [(1,a_ 1 b1)] (NN (cP ((n:Int)>=(1000000000:Int)) (λh10=>zR ⟨zc Value.bool (Lk (by unfold iU;omega)).symm,rfl⟩) (λh10=>KX (SQ (jK 3 [13] [(1,a_ 1 b1)] (NN (cP ((s:Int)=((-1099511627777):Int)) (λsH=>SR (jK 4 [2] [(1,a_ 1 b1)] (eN (v:=(.bool (decide ((n:Int)>(0:Int))))) ⟨zc Value.bool (aii.2 (by unfold iU;omega)),rfl⟩))) (λsH=>KX (SR (jK 4 [20] [(1,a_ 1 b1)] (sP 20 ((s:Int)>((-1099511627777):Int)) (λlZ=>jK 5 [2] [(1,a_ 1 b1)] (eN (v:=(.bool (decide ((s:Int)<=(1099511627776:Int))))) ⟨zc Value.bool (aii.2 (by unfold iU;omega)),rfl⟩)) (λlZ=>jK 5 [2] [] (eN ⟨zc Value.bool (Lk (by unfold iU;omega)).symm,rfl⟩)))))))))))))))))))
theorem GR {β:Bs} (s n:Int) :
 aU Tryz.prog β 55 #[.agg #[vI (s),vI (n)]] [] (λv l=>v=.bool (decide (iU s n))/\l=[]):=by
 exact SE Tryz.func55 Tryz.ntmps55 (λR=>SR (jB 2 [1] (λb2=>.aD b2 [vI (s),vI (n)] 26) (λb2=>NZ (jK 4 [6] [(1,a_ 1 b2)] (sP 6 ((n:Int)<(0:Int)) (λh6=>jK 14 [20] [] (NT (zR ⟨zc Value.bool (Lk (by unfold iU;omega)).symm,rfl⟩))) (λh6=>jK 5 [11] [(1,a_ 1 b2)] (sP 11 ((n:Int)>=(1000000000:Int)) (λh11=>jK 9 [20] [] (NT (zR ⟨zc Value.bool (Lk (by unfold iU;omega)).symm,rfl⟩))) (λh11=>jK 5 [16] [(1,a_ 1 b2)] (sP 16 ((s:Int)>(1099511627776:Int)) (λpz=>jK 4 [20] [] (NT (zR ⟨zc Value.bool (Lk (by unfold iU;omega)).symm,rfl⟩))) (λpz=>jK 4 [20] [(1,a_ 1 b2)] (NN (cP ((s:Int)<((-1099511627777):Int)) (λlZ=>zR ⟨zc Value.bool (Lk (by unfold iU;omega)).symm,rfl⟩) (λlZ=>KX (SR (jK 4 [24] [(1,a_ 1 b2)] (sN 24 ((s:Int)=((-1099511627777):Int)) (λq6=>jK 5 [2] [] (eN ⟨zc Value.bool (aio (by unfold iU;omega)).symm,rfl⟩)) (λq6=>jK 5 [2] [(1,a_ 1 b2)] (eN (v:=(.bool (!(decide ((n:Int)=(0:Int)))))) ⟨zc Value.bool (EC (by unfold iU;omega)),rfl⟩))))))))))))))))))
theorem Dl {β:Bs} (s:ByteArray) (hl:s.size<=1048576) :
 aU Tryz.prog β 82 #[.string s] [] (λv l=>v=.bool (decide (bW s))/\l=[]):=by
 refine SE Tryz.func82 Tryz.ntmps82 (λR=>SR (jK 1 [] [] (NZ (jK 1 [3] [] (NN (av.block (lJ (λ(i:Nat)=>(i<=s.size)/\(∀j,j<i->¬dS s j=0/\¬dS s j=47)) (λ(i:Nat)=>s.size-i) (λ(i:Nat)=>[(0,.string s),(3,vI ↑i)]) (λ(i:Nat)=>[.abs R]) 0 [0] (⟨L4 _,λj hj=>KB hj (N5 j)⟩) ?_)))))))
 rintro i ⟨hi,j3⟩
 exact SQ (jK 4 [7] [] (NN (cP ((((i:Nat):Int):Int)<((((s:ByteArray).size:Nat):Int):Int)) (λh7=>KX (av.seq (av.block (SR (jK 5 [14] [(2,xP i (i<(s:ByteArray).size))] (sP 14 ((((((s:ByteArray).data.getD (i) 0).toNat:Nat):Int):Int)=(0:Int)) (λnO=>jK 5 [19] [] (NT (zR ⟨zc Value.bool (Lk (by intro g;have:=g.2.2.2.2 i d5;unfold dS at this;omega)).symm,rfl⟩))) (λnO=>jK 5 [19] [(2,xP i (i<(s:ByteArray).size))] (NN (cP ((((((s:ByteArray).data.getD (i) 0).toNat:Nat):Int):Int)=(47:Int)) (λGS=>zR ⟨zc Value.bool (Lk (by intro g;have:=g.2.2.2.2 i d5;unfold dS at this;omega)).symm,rfl⟩) (λGS=>KX (av.region (jK 3 [3] [(1,wJ ((i:Int)+1) (↑(i+1)))] (NL (tJ ((i+1)) [0] (⟨d5,λj hj=>by grind [dS]⟩))))))))))))))) (λh7=>XX (SR (jK 4 [23] [] (sP 23 (((((s:ByteArray).size:Nat):Int):Int)>=(1:Int)) (λh23=>jK 5 [28] [] (sP 28 (((((s:ByteArray).size:Nat):Int):Int)<=(255:Int)) (λtN=>jK 4 [32] [(1,w_ (.bool (!(decide ((s:ByteArray)=⟨#[46]⟩)))) (IY _ _))] (sN 32 ((s:ByteArray)=⟨#[46]⟩) (λr9=>jK 4 [2] [(1,w_ (.bool (!(decide ((s:ByteArray)=⟨#[46,46]⟩)))) (IY _ _))] (eN (v:=(.bool (!(decide ((s:ByteArray)=⟨#[46,46]⟩))))) ⟨zc Value.bool (EC (by have hA:∀j,j<s.size->¬dS s j=0/\¬dS s j=47:=λj hj=>j3 j d5;unfold bW;grind)),rfl⟩)) (λr9=>jK 4 [2] [] (eN ⟨zc Value.bool (Lk (by have hA:∀j,j<s.size->¬dS s j=0/\¬dS s j=47:=λj hj=>j3 j d5;unfold bW;grind)).symm,rfl⟩)))) (λtN=>jK 8 [2] [] (eN ⟨zc Value.bool (Lk (by have hA:∀j,j<s.size->¬dS s j=0/\¬dS s j=47:=λj hj=>j3 j d5;unfold bW;grind)).symm,rfl⟩)))) (λh23=>jK 13 [2] [] (eN ⟨zc Value.bool (Lk (by have hA:∀j,j<s.size->¬dS s j=0/\¬dS s j=47:=λj hj=>j3 j d5;unfold bW;grind)).symm,rfl⟩)))))))))
theorem Oc {β:Bs} (n:aO) (dA eA:Option Addr) (dC eC:Nat) (ht:n.target.size<=1048576) :
 aU Tryz.prog β 81 #[.agg #[vI (n.id),vI (n.kind),vI (n.mode),vI (n.cM),vI (n.cO),vI (n.bH),vI (n.bh),.slice dA (n.data.length) (dC),.string n.target,.slice eA (n.aq.length) (eC)]] [] (λv l=>v=.bool (decide (si n))/\l=[]):=by
 refine SE Tryz.func81 Tryz.ntmps81 (λR=>SR (jB 2 [1] (λb3=>.aD b3 [vI (n.id),vI (n.kind),vI (n.mode),vI (n.cM),vI (n.cO),vI (n.bH),vI (n.bh),.slice dA (n.data.length) (dC),.string n.target,.slice eA (n.aq.length) (eC)] 102) (λb3=>NZ (jK 4 [7] [(1,a_ 1 b3)] (sP 7 ((n.kind:Int)<(1:Int)) (λh7=>jK 40 [47] [] (NT (zR ⟨zc Value.bool (Lk (by rw [dF];grind [dL])).symm,rfl⟩))) (λh7=>jK 5 [12] [(1,a_ 1 b3)] (sP 12 ((n.kind:Int)>(3:Int)) (λh12=>jK 35 [47] [] (NT (zR ⟨zc Value.bool (Lk (by rw [dF];grind [dL])).symm,rfl⟩))) (λh12=>jK 5 [17] [(1,a_ 1 b3)] (sP 17 ((n.mode:Int)<(0:Int)) (λJg=>jK 30 [47] [] (NT (zR ⟨zc Value.bool (Lk (by rw [dF];grind [dL])).symm,rfl⟩))) (λJg=>jK 5 [22] [(1,a_ 1 b3)] (sP 22 ((n.mode:Int)>(4095:Int)) (λtH=>jK 25 [47] [] (NT (zR ⟨zc Value.bool (Lk (by rw [dF];grind [dL])).symm,rfl⟩))) (λtH=>jK 5 [27] [(1,a_ 1 b3)] (sP 27 ((n.cM:Int)<(0:Int)) (λyN=>jK 20 [47] [] (NT (zR ⟨zc Value.bool (Lk (by rw [dF];grind [dL])).symm,rfl⟩))) (λyN=>jK 5 [32] [(1,a_ 1 b3)] (sP 32 ((n.cM:Int)>(2147483647:Int)) (λr9=>jK 15 [47] [] (NT (zR ⟨zc Value.bool (Lk (by rw [dF];grind [dL])).symm,rfl⟩))) (λr9=>jK 5 [37] [(1,a_ 1 b3)] (sP 37 ((n.cO:Int)<(0:Int)) (λyO=>jK 10 [47] [] (NT (zR ⟨zc Value.bool (Lk (by rw [dF];grind [dL])).symm,rfl⟩))) (λyO=>jK 5 [42] [(1,a_ 1 b3)] (sP 42 ((n.cO:Int)>(2147483647:Int)) (λtO=>jK 5 [47] [] (NT (zR ⟨zc Value.bool (Lk (by rw [dF];grind [dL])).symm,rfl⟩))) (λtO=>jK 2 [44] [(1,A_ 1 b3 2)] (gE [] (GR n.bH n.bh) (jK 2 [47] [] (NN (cN (iU n.bH n.bh) (λR7=>zR ⟨zc Value.bool (Lk (by rw [dF];grind [dL])).symm,rfl⟩) (λR7=>KX (SQ (jK 4 [51] [(1,a_ 1 b3)] (sN 51 ((n.kind:Int)=(1:Int)) (λwu=>?_) (λwu=>?_)))))))))))))))))))))))))))))
 ·refine jK 6 [57] [(1,a_ 1 b3)] (sP 57 ((((n.data.length:Nat):Int):Int)>(0:Int)) (λh57=>jK 10 [67] [] (NT (zR ⟨zc Value.bool (Lk (by rw [dF];grind [dL])).symm,rfl⟩))) (λh57=>jK 4 [61] [(1,a_ 1 b3)] (sN 61 ((n.kind:Int)=(2:Int)) (λL7=>?_) (λL7=>?_))))
  ·refine jK 6 [67] [(1,a_ 1 b3)] (NN (cP ((((n.aq.length:Nat):Int):Int)>(0:Int)) (λWd=>zR ⟨zc Value.bool (Lk (by rw [dF];grind [dL])).symm,rfl⟩) (λWd=>KX (SQ (jK 3 [70] [(1,a_ 1 b3)] (NN (cN ((n.kind:Int)=(3:Int)) (λOd=>SR (jK 4 [2] [(1,a_ 1 b3),(2,w_ (.bool (decide ((n.target:ByteArray)=⟨#[]⟩))) (qH _ _))] (eN (v:=(.bool (decide ((n.target:ByteArray)=⟨#[]⟩)))) ⟨zc Value.bool (aii.2 (by rw [dF];grind [dL])),rfl⟩))) (λOd=>KX (SQ (jK 1 [3] [] (NN (av.block (lJ (λ(i:Nat)=>(i<=n.target.size)/\(∀j,j<i->¬dS n.target j=0)) (λ(i:Nat)=>n.target.size-i) (λ(i:Nat)=>[(1,vP b3),(3,vI ↑i)]) (λ(i:Nat)=>[.abs R,.aD b3 [vI (n.id),vI (n.kind),vI (n.mode),vI (n.cM),vI (n.cO),vI (n.bH),vI (n.bh),.slice dA (n.data.length) (dC),.string n.target,.slice eA (n.aq.length) (eC)] 102]) 0 [0,1] (⟨L4 _,λj hj=>KB hj (N5 j)⟩) ?_)))))))))))))
   rintro i ⟨hi,j3⟩
   exact SQ (jK 5 [78] [(2,a_ 1 b3)] (NN (cP ((((i:Nat):Int):Int)<((((n.target:ByteArray).size:Nat):Int):Int)) (λOe=>KX (av.seq (av.block (SR (jK 5 [85] [(1,a_ 1 b3),(3,xP i (i<(n.target:ByteArray).size))] (NN (cP ((((((n.target:ByteArray).data.getD (i) 0).toNat:Nat):Int):Int)=(0:Int)) (λOg=>zR ⟨zc Value.bool (Lk (by intro g;have:=(dL.sym g.target d5).2.2 i d5;unfold dS at this;omega)).symm,rfl⟩) (λOg=>KX (av.region (jK 3 [3] [(1,wJ ((i:Int)+1) (↑(i+1)))] (NL (tJ ((i+1)) [0,1] (⟨d5,λj hj=>by grind [dS]⟩))))))))))))) (λOe=>XX (SR (jK 5 [90] [(1,a_ 1 b3)] (sP 90 (((((n.target:ByteArray).size:Nat):Int):Int)>=(1:Int)) (λwv=>jK 6 [2] [(1,a_ 1 b3)] (eN (v:=(.bool (decide (((((n.target:ByteArray).size:Nat):Int):Int)<=(4096:Int))))) ⟨zc Value.bool (aii.2 (by grind [qE,dF,dL])),rfl⟩)) (λwv=>jK 6 [2] [] (eN ⟨zc Value.bool (Lk (by have hA:qE n.target:=λj hj=>j3 j d5;rw [dF];grind [dL])).symm,rfl⟩)))))))))
  refine jK 6 [67] [] (NF (KX (SQ (jK 3 [70] [(1,a_ 1 b3)] (NN (cN ((n.kind:Int)=(3:Int)) (λOd=>SR (jK 4 [2] [(1,a_ 1 b3),(2,w_ (.bool (decide ((n.target:ByteArray)=⟨#[]⟩))) (qH _ _))] (eN (v:=(.bool (decide ((n.target:ByteArray)=⟨#[]⟩)))) ⟨zc Value.bool (aii.2 (by rw [dF];grind [dL])),rfl⟩))) (λOd=>KX (SQ (jK 1 [3] [] (NN (av.block (lJ (λ(i:Nat)=>(i<=n.target.size)/\(∀j,j<i->¬dS n.target j=0)) (λ(i:Nat)=>n.target.size-i) (λ(i:Nat)=>[(1,vP b3),(3,vI ↑i)]) (λ(i:Nat)=>[.abs R,.aD b3 [vI (n.id),vI (n.kind),vI (n.mode),vI (n.cM),vI (n.cO),vI (n.bH),vI (n.bh),.slice dA (n.data.length) (dC),.string n.target,.slice eA (n.aq.length) (eC)] 102]) 0 [0,1] (⟨L4 _,λj hj=>KB hj (N5 j)⟩) ?_))))))))))))
  rintro i ⟨hi,j3⟩
  exact SQ (jK 5 [78] [(2,a_ 1 b3)] (NN (cP ((((i:Nat):Int):Int)<((((n.target:ByteArray).size:Nat):Int):Int)) (λOe=>KX (av.seq (av.block (SR (jK 5 [85] [(1,a_ 1 b3),(3,xP i (i<(n.target:ByteArray).size))] (NN (cP ((((((n.target:ByteArray).data.getD (i) 0).toNat:Nat):Int):Int)=(0:Int)) (λOg=>zR ⟨zc Value.bool (Lk (by intro g;have:=(dL.sym g.target d5).2.2 i d5;unfold dS at this;omega)).symm,rfl⟩) (λOg=>KX (av.region (jK 3 [3] [(1,wJ ((i:Int)+1) (↑(i+1)))] (NL (tJ ((i+1)) [0,1] (⟨d5,λj hj=>by grind [dS]⟩))))))))))))) (λOe=>XX (SR (jK 5 [90] [(1,a_ 1 b3)] (sP 90 (((((n.target:ByteArray).size:Nat):Int):Int)>=(1:Int)) (λwv=>jK 6 [2] [(1,a_ 1 b3)] (eN (v:=(.bool (decide (((((n.target:ByteArray).size:Nat):Int):Int)<=(4096:Int))))) ⟨zc Value.bool (aii.2 (by grind [qE,dF,dL])),rfl⟩)) (λwv=>jK 6 [2] [] (eN ⟨zc Value.bool (Lk (by have hA:qE n.target:=λj hj=>j3 j d5;rw [dF];grind [dL])).symm,rfl⟩)))))))))
 refine jK 10 [57,61] [(7,a_ 1 b3)] (sN 61 ((n.kind:Int)=(2:Int)) (λL7=>?_) (λL7=>?_))
 ·refine jK 6 [67] [(1,a_ 1 b3)] (NN (cP ((((n.aq.length:Nat):Int):Int)>(0:Int)) (λWd=>zR ⟨zc Value.bool (Lk (by rw [dF];grind [dL])).symm,rfl⟩) (λWd=>KX (SQ (jK 3 [70] [(1,a_ 1 b3)] (NN (cN ((n.kind:Int)=(3:Int)) (λOd=>SR (jK 4 [2] [(1,a_ 1 b3),(2,w_ (.bool (decide ((n.target:ByteArray)=⟨#[]⟩))) (qH _ _))] (eN (v:=(.bool (decide ((n.target:ByteArray)=⟨#[]⟩)))) ⟨zc Value.bool (aii.2 (by rw [dF];grind [dL])),rfl⟩))) (λOd=>KX (SQ (jK 1 [3] [] (NN (av.block (lJ (λ(i:Nat)=>(i<=n.target.size)/\(∀j,j<i->¬dS n.target j=0)) (λ(i:Nat)=>n.target.size-i) (λ(i:Nat)=>[(1,vP b3),(3,vI ↑i)]) (λ(i:Nat)=>[.abs R,.aD b3 [vI (n.id),vI (n.kind),vI (n.mode),vI (n.cM),vI (n.cO),vI (n.bH),vI (n.bh),.slice dA (n.data.length) (dC),.string n.target,.slice eA (n.aq.length) (eC)] 102]) 0 [0,1] (⟨L4 _,λj hj=>KB hj (N5 j)⟩) ?_)))))))))))))
  rintro i ⟨hi,j3⟩
  exact SQ (jK 5 [78] [(2,a_ 1 b3)] (NN (cP ((((i:Nat):Int):Int)<((((n.target:ByteArray).size:Nat):Int):Int)) (λOe=>KX (av.seq (av.block (SR (jK 5 [85] [(1,a_ 1 b3),(3,xP i (i<(n.target:ByteArray).size))] (NN (cP ((((((n.target:ByteArray).data.getD (i) 0).toNat:Nat):Int):Int)=(0:Int)) (λOg=>zR ⟨zc Value.bool (Lk (by intro g;have:=(dL.sym g.target d5).2.2 i d5;unfold dS at this;omega)).symm,rfl⟩) (λOg=>KX (av.region (jK 3 [3] [(1,wJ ((i:Int)+1) (↑(i+1)))] (NL (tJ ((i+1)) [0,1] (⟨d5,λj hj=>by grind [dS]⟩))))))))))))) (λOe=>XX (SR (jK 5 [90] [(1,a_ 1 b3)] (sP 90 (((((n.target:ByteArray).size:Nat):Int):Int)>=(1:Int)) (λwv=>jK 6 [2] [(1,a_ 1 b3)] (eN (v:=(.bool (decide (((((n.target:ByteArray).size:Nat):Int):Int)<=(4096:Int))))) ⟨zc Value.bool (aii.2 (by grind [qE,dF,dL])),rfl⟩)) (λwv=>jK 6 [2] [] (eN ⟨zc Value.bool (Lk (by have hA:qE n.target:=λj hj=>j3 j d5;rw [dF];grind [dL])).symm,rfl⟩)))))))))
 refine jK 6 [67] [] (NF (KX (SQ (jK 3 [70] [(1,a_ 1 b3)] (NN (cN ((n.kind:Int)=(3:Int)) (λOd=>SR (jK 4 [2] [(1,a_ 1 b3),(2,w_ (.bool (decide ((n.target:ByteArray)=⟨#[]⟩))) (qH _ _))] (eN (v:=(.bool (decide ((n.target:ByteArray)=⟨#[]⟩)))) ⟨zc Value.bool (aii.2 (by rw [dF];grind [dL])),rfl⟩))) (λOd=>KX (SQ (jK 1 [3] [] (NN (av.block (lJ (λ(i:Nat)=>(i<=n.target.size)/\(∀j,j<i->¬dS n.target j=0)) (λ(i:Nat)=>n.target.size-i) (λ(i:Nat)=>[(1,vP b3),(3,vI ↑i)]) (λ(i:Nat)=>[.abs R,.aD b3 [vI (n.id),vI (n.kind),vI (n.mode),vI (n.cM),vI (n.cO),vI (n.bH),vI (n.bh),.slice dA (n.data.length) (dC),.string n.target,.slice eA (n.aq.length) (eC)] 102]) 0 [0,1] (⟨L4 _,λj hj=>KB hj (N5 j)⟩) ?_))))))))))))
 rintro i ⟨hi,j3⟩
 exact SQ (jK 5 [78] [(2,a_ 1 b3)] (NN (cP ((((i:Nat):Int):Int)<((((n.target:ByteArray).size:Nat):Int):Int)) (λOe=>KX (av.seq (av.block (SR (jK 5 [85] [(1,a_ 1 b3),(3,xP i (i<(n.target:ByteArray).size))] (NN (cP ((((((n.target:ByteArray).data.getD (i) 0).toNat:Nat):Int):Int)=(0:Int)) (λOg=>zR ⟨zc Value.bool (Lk (by intro g;have:=(dL.sym g.target d5).2.2 i d5;unfold dS at this;omega)).symm,rfl⟩) (λOg=>KX (av.region (jK 3 [3] [(1,wJ ((i:Int)+1) (↑(i+1)))] (NL (tJ ((i+1)) [0,1] (⟨d5,λj hj=>by grind [dS]⟩))))))))))))) (λOe=>XX (SR (jK 5 [90] [(1,a_ 1 b3)] (sP 90 (((((n.target:ByteArray).size:Nat):Int):Int)>=(1:Int)) (λwv=>jK 6 [2] [(1,a_ 1 b3)] (eN (v:=(.bool (decide (((((n.target:ByteArray).size:Nat):Int):Int)<=(4096:Int))))) ⟨zc Value.bool (aii.2 (by grind [qE,dF,dL])),rfl⟩)) (λwv=>jK 6 [2] [] (eN ⟨zc Value.bool (Lk (by have hA:qE n.target:=λj hj=>j3 j d5;rw [dF];grind [dL])).symm,rfl⟩)))))))))
theorem yV {β:Bs} (A:Option Addr) (c:Nat) (ns:List aO) (L:fq) (hG:aN β A ns L) (hr:dM ns) (hl:ns.length<=1048576) (id:Int) :
 aU Tryz.prog β 30 #[.agg #[.slice A ns.length c],vI id] [] (λv l=>v=vI (gU ns id)/\l=[]):=by
 refine SE Tryz.func30 Tryz.ntmps30 (λR=>SR (jB 2 [2] (λb4=>.aD b4 [.slice A (ns.length) (c)] 24) (λb4=>NS (jK 1 [5] [] (NS (jK 4 [6] [(1,a_ 1 b4)] (NN (av.seq (av.block (lJ (λ(lo,hi)=>(lo<=hi)/\(hi<=ns.length)/\(∀j,j<lo->(nd ns j).id<id)/\(∀j,hi<=j->j<ns.length->id<=(nd ns j).id)) (λ(lo,hi)=>hi-lo) (λ(lo,hi)=>[(1,vI (id)),(2,vP b4),(5,vI ↑lo),(6,vI ↑hi)]) (λ(lo,hi)=>[.abs R,.aD b4 [.slice A (ns.length) (c)] 24]) (0,ns.length) [0,1] (⟨L4 _,N6 _,λj hj=>KB hj (N5 j),λj h1 h2=>KB h2 (Nat.not_lt.2 h1)⟩) ?_))))))))))
 rintro⟨lo,hi⟩ ⟨hlh,hhi,ha,hb⟩
 exact SQ (jK 3 [13] [] (NN (cP ((((lo:Nat):Int):Int)<(((hi:Nat):Int):Int)) (λsH=>KX (av.block (SR (jK 7 [7] [(3,wJ ((hi:Int)-(lo:Int)) (↑(hi-lo))),(4,w_ (.int .i64 ↑((hi-lo) / 2)) (vw (Int.ofNat_tdiv _ _).symm d5 d5)),(5,wJ ((lo:Int)+(((hi-lo) / 2:Nat):Int)) (↑(lo+((hi-lo) / 2))))] (NS (jK 8 [27] [(1,a_ 1 b4),(3,p_ ⟨[],some (lo+((hi-lo) / 2)),none,some ⟨(bG A),bE A,none⟩,none⟩ [((lo+((hi-lo) / 2):Nat):Int)=((lo+((hi-lo) / 2):Nat):Int),lo+((hi-lo) / 2)<ns.length,(⟨(bG A),bE A,none⟩:Addr).spot=none,(A:Option Addr)=some ⟨(bG A),bE A,none⟩] ⟨rfl,d5,rfl,aN.hd hG (i:=lo+((hi-lo) / 2)) d5,trivial⟩),(5,r_ (aN.rd hG (i:=lo+((hi-lo) / 2)) d5 (j:=0) rfl))] (NN (cP (((nd ns (lo+((hi-lo) / 2))).id:Int)<(id:Int)) (λyN=>av.region (jK 3 [5] [(1,wJ (((lo+((hi-lo) / 2):Nat):Int)+1) (↑((lo+((hi-lo) / 2))+1)))] (NL (aF.j8 (tJ (((lo+(hi-lo) / 2)+1),hi) [0,1] (⟨d5,d5,λj hj=>by have:=hr.le (show j<=(lo+(hi-lo) / 2) by omega) d5;omega,hb⟩)))))) (λyN=>av.region (jK 2 [6] [] (NL (aF.j8 (tJ (lo,(lo+(hi-lo) / 2)) [0,1] (⟨d5,d5,ha,λj hj hj2=>by have:=hr.le hj hj2;omega⟩)))))))))))))) (λsH=>XX (SQ (jK 6 [36] [(2,a_ 1 b4)] (sP 36 ((((lo:Nat):Int):Int)<(((ns.length:Nat):Int):Int)) (λEa=>jK 9 [45] [(1,a_ 1 b4),(3,x_ lo ns.length (aN.hd hG (i:=lo) d5)),(5,r_ (aN.rd hG (i:=lo) d5 (j:=0) rfl))] (NN (cP (((nd ns lo).id:Int)=(id:Int)) (λvH=>zR ⟨zc (Value.int .i64) (H7 hr d5 vH).symm,rfl⟩) (λvH=>KX (zR ⟨zc (Value.int .i64) (Dj (λj hj e=>by rcases aiS j lo with h|h|h;have:=ha j h;omega;subst h;omega;have:=hr lo j h hj;have:=hb lo d5 d5;omega)).symm,rfl⟩))))) (λEa=>jK 9 [45] [] (NF (KX (zR ⟨zc (Value.int .i64) (Dj (λj hj e=>by rcases aiS j lo with h|h|h;have:=ha j h;omega;subst h;omega;have:=hr lo j h hj;have:=hb lo d5 d5;omega)).symm,rfl⟩)))))))))))
theorem FW {β:Bs} (A:Option Addr) (ns:List aO) (L:fq) (hG:aN β A ns L) (i:Nat) (hi:i<ns.length) :
 aU Tryz.prog β 153 #[.pointer (some ⟨(bG A),bE A+i*10,none⟩)] [] (λv l=>v=.bool (decide (dL (nd ns i).kind (nd ns i).target))/\l=[]):=by
 exact SE Tryz.func153 Tryz.ntmps153 (λR=>SR (jK 1 [] [] (NZ (jK 5 [7] [(3,r_ (aN.rd hG (i:=i) d5 (j:=1) rfl))] (NN (cN (((nd ns i).kind:Int)=(3:Int)) (λh7=>SR (jK 6 [2] [(3,r_ (aN.rd hG (i:=i) d5 (j:=8) rfl)),(4,w_ (.bool (decide (((nd ns i).target:ByteArray)=⟨#[]⟩))) (qH _ _))] (eN (v:=(.bool (decide (((nd ns i).target:ByteArray)=⟨#[]⟩)))) ⟨zc Value.bool (aii.2 (by grind [tf,nd,dL])),rfl⟩))) (λh7=>KX (SR (jK 6 [18] [(3,r_ (aN.rd hG (i:=i) d5 (j:=8) rfl)),(4,w_ (.bool (!(decide (((nd ns i).target:ByteArray)=⟨#[]⟩)))) (IY _ _))] (sN 18 (((nd ns i).target:ByteArray)=⟨#[]⟩) (λpQ=>jK 8 [26] [(3,r_ (aN.rd hG (i:=i) d5 (j:=8) rfl))] (sP 26 ((((((nd ns i).target:ByteArray).size:Nat):Int):Int)<=(4096:Int)) (λwq=>jK 4 [30] [(3,r_ (aN.rd hG (i:=i) d5 (j:=8) rfl))] (gE [] (aU.quiet (λw=>Tryz.strings_IndexByte (nd ns i).target 0 w)) (jK 3 [2] [] (eN (v:=(.bool (decide ((Lib.indexByte (nd ns i).target.data.toList (0:Int).toNat.toUInt8:Int)<(0:Int))))) ⟨zc Value.bool (aii.2 (by grind [tf,nd,N7,dL])),rfl⟩)))) (λwq=>jK 8 [2] [] (eN ⟨zc Value.bool (Lk (by grind [tf,nd,dL])).symm,rfl⟩)))) (λpQ=>jK 16 [2] [] (eN ⟨zc Value.bool (Lk (by grind [tf,nd,dL])).symm,rfl⟩))))))))))))
theorem Zk {β:Bs} (A:Option Addr) (ns:List aO) (L:fq) (hG:aN β A ns L) (i:Nat) (hi:i<ns.length) :
 aU Tryz.prog β 125 #[.pointer (some ⟨(bG A),bE A+i*10,none⟩)] [] (λv l=>v=.bool (decide (si (nd ns i)))/\l=[]):=by
 refine SE Tryz.func125 Tryz.ntmps125 (λR=>SR (jK 1 [] [] (NZ (jK 4 [6] [(3,r_ (aN.rd hG (i:=i) d5 (j:=1) rfl))] (gE [] (Bk ((nd ns i).kind) 1 3) (jK 2 [9] [] (sN 9 (Within ((nd ns i).kind) 1 3) (λh9=>jK 23 [32] [] (NT (zR ⟨zc Value.bool (Lk (by grind [dF,Within])).symm,rfl⟩))) (λh9=>jK 4 [13] [(3,r_ (aN.rd hG (i:=i) d5 (j:=2) rfl))] (gE [] (Bk ((nd ns i).mode) 0 4095) (jK 3 [17] [] (sN 17 (Within ((nd ns i).mode) 0 4095) (λJg=>jK 15 [32] [] (NT (zR ⟨zc Value.bool (Lk (by grind [dF,Within])).symm,rfl⟩))) (λJg=>jK 4 [21] [(3,r_ (aN.rd hG (i:=i) d5 (j:=3) rfl))] (gE [] (Bk ((nd ns i).cM) 0 2147483647) (jK 3 [25] [] (sN 25 (Within ((nd ns i).cM) 0 2147483647) (λqJ=>jK 7 [32] [] (NT (zR ⟨zc Value.bool (Lk (by grind [dF,Within])).symm,rfl⟩))) (λqJ=>?_))))))))))))))))
 exact jK 4 [29] [(3,r_ (aN.rd hG (i:=i) d5 (j:=4) rfl))] (gE [] (Bk ((nd ns i).cO) 0 2147483647) (jK 2 [32] [] (NN (cN (Within ((nd ns i).cO) 0 2147483647) (λr9=>zR ⟨zc Value.bool (Lk (by grind [dF,Within])).symm,rfl⟩) (λr9=>KX (SQ (jK 6 [38] [(3,r_ (aN.rd hG (i:=i) d5 (j:=1) rfl))] (sN 38 (((nd ns i).kind:Int)=(1:Int)) (λh38=>jK 8 [46] [(3,r_ (aN.rd hG (i:=i) d5 (j:=7) rfl))] (sP 46 (((((nd ns i).data.length:Nat):Int):Int)>(0:Int)) (λh46=>jK 14 [60] [] (NT (zR ⟨zc Value.bool (Lk (by grind [dF,Within])).symm,rfl⟩))) (λh46=>jK 6 [52] [(3,r_ (aN.rd hG (i:=i) d5 (j:=1) rfl))] (sN 52 (((nd ns i).kind:Int)=(2:Int)) (λuW=>jK 8 [60] [(3,r_ (aN.rd hG (i:=i) d5 (j:=9) rfl))] (NN (cP (((((nd ns i).aq.length:Nat):Int):Int)>(0:Int)) (λOh=>zR ⟨zc Value.bool (Lk (by grind [dF,Within])).symm,rfl⟩) (λOh=>KX (SR (jK 4 [64] [(3,r2 (aN.rd hG (i:=i) d5 (j:=5) rfl) (aN.rd hG (i:=i) d5 (j:=6) rfl))] (gE [] (sj (nd ns i).bH (nd ns i).bh) (jK 1 [66] [] (sP 66 (iU (nd ns i).bH (nd ns i).bh) (λqz=>jK 1 [67] [] (gE [] (FW A ns L hG i hi) (jK 2 [2] [] (eN (v:=(.bool (decide (dL (nd ns i).kind (nd ns i).target)))) ⟨zc Value.bool (aii.2 (by grind [dF,Within])),rfl⟩)))) (λqz=>jK 4 [2] [] (eN ⟨zc Value.bool (Lk (by grind [dF,Within])).symm,rfl⟩))))))))))) (λuW=>jK 8 [60] [] (NF (KX (SR (jK 4 [64] [(3,r2 (aN.rd hG (i:=i) d5 (j:=5) rfl) (aN.rd hG (i:=i) d5 (j:=6) rfl))] (gE [] (sj (nd ns i).bH (nd ns i).bh) (jK 1 [66] [] (sP 66 (iU (nd ns i).bH (nd ns i).bh) (λqz=>jK 1 [67] [] (gE [] (FW A ns L hG i hi) (jK 2 [2] [] (eN (v:=(.bool (decide (dL (nd ns i).kind (nd ns i).target)))) ⟨zc Value.bool (aii.2 (by grind [dF,Within])),rfl⟩)))) (λqz=>jK 4 [2] [] (eN ⟨zc Value.bool (Lk (by grind [dF,Within])).symm,rfl⟩)))))))))))))) (λh38=>jK 14 [46,52] [(11,r_ (aN.rd hG (i:=i) d5 (j:=1) rfl))] (sN 52 (((nd ns i).kind:Int)=(2:Int)) (λuW=>jK 8 [60] [(3,r_ (aN.rd hG (i:=i) d5 (j:=9) rfl))] (NN (cP (((((nd ns i).aq.length:Nat):Int):Int)>(0:Int)) (λOh=>zR ⟨zc Value.bool (Lk (by grind [dF,Within])).symm,rfl⟩) (λOh=>KX (SR (jK 4 [64] [(3,r2 (aN.rd hG (i:=i) d5 (j:=5) rfl) (aN.rd hG (i:=i) d5 (j:=6) rfl))] (gE [] (sj (nd ns i).bH (nd ns i).bh) (jK 1 [66] [] (sP 66 (iU (nd ns i).bH (nd ns i).bh) (λqz=>jK 1 [67] [] (gE [] (FW A ns L hG i hi) (jK 2 [2] [] (eN (v:=(.bool (decide (dL (nd ns i).kind (nd ns i).target)))) ⟨zc Value.bool (aii.2 (by grind [dF,Within])),rfl⟩)))) (λqz=>jK 4 [2] [] (eN ⟨zc Value.bool (Lk (by grind [dF,Within])).symm,rfl⟩))))))))))) (λuW=>jK 8 [60] [] (NF (KX (SR (jK 4 [64] [(3,r2 (aN.rd hG (i:=i) d5 (j:=5) rfl) (aN.rd hG (i:=i) d5 (j:=6) rfl))] (gE [] (sj (nd ns i).bH (nd ns i).bh) (jK 1 [66] [] (sP 66 (iU (nd ns i).bH (nd ns i).bh) (λqz=>jK 1 [67] [] (gE [] (FW A ns L hG i hi) (jK 2 [2] [] (eN (v:=(.bool (decide (dL (nd ns i).kind (nd ns i).target)))) ⟨zc Value.bool (aii.2 (by grind [dF,Within])),rfl⟩)))) (λqz=>jK 4 [2] [] (eN ⟨zc Value.bool (Lk (by grind [dF,Within])).symm,rfl⟩))))))))))))))))))))
end
section
open Go.RowKit Go.Maps
def ja (x y:ByteArray):Prop:=(Op.bytesLess x.toList y.toList || (x.toList == y.toList))=true
instance (x y:ByteArray):Decidable (ja x y):=inferInstanceAs (Decidable (_=true))
theorem Oi (x y:ByteArray):Value.bool (Op.bytesLess x.toList y.toList || (x.toList == y.toList))=Value.bool (decide (ja x y)):=by
 grind [ja]
theorem Q7 {x:ByteArray}:ja x ⟨#[]⟩↔x=⟨#[]⟩:=by
 unfold ja
 rw [Ek]
 have h1:(⟨#[]⟩:ByteArray).toList=[]:=by rw [Lib.toList_data]
 have h2:Op.bytesLess x.toList (⟨#[]⟩:ByteArray).toList=false:=by
  rw [h1]
  cases x.toList<;>rfl
 rw [h2]
 simp
def bZ (ns:List aO) (z:Int):Nat:=(gU ns z).toNat
theorem mR {ns:List aO} {z:Int} (h:0<=gU ns z):bZ ns z<ns.length/\(nd ns (bZ ns z)).id=z/\gU ns z=(bZ ns z:Int):=by
 unfold bZ
 unfold gU at h ⊢
 cases hf:ns.findIdx? (λn=>n.id == z) with
 |none=>rw [hf] at h;simp at h
 |some k=>
   rw [aiN] at hf
   grind [nd]
theorem CI {ns:List aO} {z:Int} (h:¬0<=gU ns z):gU ns z = -1:=by
 grind [gU]
def bR (ns:List aO) (i j:Nat):fO:=en (nd ns i).aq j
def zS (ns:List aO) (i:Nat):Nat->ByteArray
 |0=>⟨#[]⟩
 |j+1=>(bR ns i j).name
structure xD (ns:List aO) (i j:Nat):Prop where
 at_:0<=gU ns (bR ns i j).id
 good:bW (bR ns i j).name
 ord:¬ja (bR ns i j).name (zS ns i j)
def R8 (ns:List aO) (i j:Nat):List (Nat×Nat):=if (nd ns (bZ ns (bR ns i j).id)).kind=2 then [(bZ ns (bR ns i j).id,i)] else []
def iG (ns:List aO) (i:Nat):Nat->List (Nat×Nat)
 |0=>[]
 |j+1=>R8 ns i j++iG ns i j
def jx (ns:List aO):Nat->List (Nat×Nat)
 |0=>[]
 |i+1=>iG ns i (nd ns i).aq.length++jx ns i
def lC (ns:List aO) (p:Nat×Nat):Int×Int:=((nd ns p.1).id,(nd ns p.2).id)
theorem Wf {ns:List aO} {i j m:Nat} (h:j<=m):∃l,iG ns i m=l++iG ns i j:=by
 induction m with
 |zero=>exact⟨[],by rw [Nat.le_zero.1 h];rfl⟩
 |succ m ih=>
   rcases Nat.lt_or_ge m j with h1|h1
   ·have:j=m+1:=d5
    subst this
    exact⟨[],rfl⟩
   grind [R8,iG]
theorem Wg {ns:List aO} {i m:Nat} (h:i<=m):∃l,jx ns m=l++jx ns i:=by
 induction m with
 |zero=>exact⟨[],by rw [Nat.le_zero.1 h];rfl⟩
 |succ m ih=>
   rcases Nat.lt_or_ge m i with h1|h1
   ·have:i=m+1:=d5
    subst this
    exact⟨[],rfl⟩
   grind [iG,nd,jx]
theorem EF {l:List (Nat×Nat)} {k:List (Nat×Nat)} (h:((l++k).map Prod.fst).Nodup):(k.map Prod.fst).Nodup:=by
 grind
theorem dM.inj {ns:List aO} (hr:dM ns) {a b:Nat} (ha:a<ns.length) (hb:b<ns.length) (h:(nd ns a).id=(nd ns b).id):a=b:=by
 rcases aiS a b with h1|h1|h1
 all_goals grind [dM,nd]
theorem R9 {ns:List aO} {ps:List (Nat×Nat)} {k:Nat} (h:up (ps.map (lC ns)) (nd ns k).id=none):k∉ps.map Prod.fst:=by
 unfold up at h
 induction ps with
 |nil=>simp
 |cons p ps ih=>
   grind [lC,nd]
theorem Sd {ns:List aO} {ps:List (Nat×Nat)} {k:Nat} {y:Int} (hr:dM ns) (hk:k<ns.length) (hp:∀p,p∈ps->p.1<ns.length) (h:up (ps.map (lC ns)) (nd ns k).id=some y):k∈ps.map Prod.fst/\∃p,p∈ps/\p.1=k/\y=(nd ns p.2).id:=by
 unfold up at h
 induction ps with
 |nil=>cases h
 |cons p ps ih=>
   obtain⟨a,b⟩:=p
   rw [aiB,lC,List.lookup_cons] at h
   by_cases e:((nd ns k).id == (nd ns a).id)=true
   ·rw [e] at h
    cases h
    have:k=a:=hr.inj hk (hp (a,b) (T5 ..)) (by simpa using e)
    subst this
    exact⟨nh,(k,b),T5 ..,rfl,rfl⟩
   grind
def bf (A:Option Addr) (ns:List aO) (k:Nat) (z:Int):Option Value:=if 0<=gU ns z/\gU ns z<k then some (.pointer (some ⟨bG A,bE A+bZ ns z*10,none⟩)) else none
structure Dm (ns:List aO) (i:Nat) (ps:List (Nat×Nat)):Prop where
 aq:∀j,j<(nd ns i).aq.length->xD ns i j
 nodup:((iG ns i (nd ns i).aq.length++ps).map Prod.fst).Nodup
theorem af2 {A:Option Addr} {ns:List aO} {k:Nat} {z:Int} (h:0<=gU ns z) (hk:bZ ns z<k):mf (bf A ns k) (.int .i64 z)=some (.pointer (some ⟨bG A,bE A+bZ ns z*10,none⟩)):=
 t8 ⟨h,by rw [(mR h).2.2];omega⟩
theorem acM {A:Option Addr} {ns:List aO} {k:Nat} {z:Int} (h:¬0<=gU ns z):mf (bf A ns k) (.int .i64 z)=none:=nw (λe=>h e.1)
theorem Oj (ns:List aO) (i j:Nat):(iG ns i j).length<=j:=by
 induction j with
 |zero=>exact N6 _
 |succ j ih=>
   grind [iG,R8]
theorem q8 {ns:List aO} {i j:Nat} (h:¬(nd ns (bZ ns (bR ns i j).id)).kind=2):iG ns i (j+1)=iG ns i j:=by
 rw [iG,R8,nw h];rfl
theorem qu {ns:List aO} {i j:Nat} (h:(nd ns (bZ ns (bR ns i j).id)).kind=2):iG ns i (j+1)=(bZ ns (bR ns i j).id,i)::iG ns i j:=by
 rw [iG,R8,t8 h];rfl
theorem Co {ns:List aO} {i j:Nat} {ps:List (Nat×Nat)} (h:Dm ns i ps) (hj:j<(nd ns i).aq.length) (hk:(nd ns (bZ ns (bR ns i j).id)).kind=2):bZ ns (bR ns i j).id∉(iG ns i j++ps).map Prod.fst:=by
 obtain⟨l,hl⟩:=Wf (ns:=ns) (i:=i) (show j+1<=(nd ns i).aq.length from hj)
 have h1:=h.nodup
 grind [EF,qu]
theorem Zl {ns:List aO} {i j:Nat} {ps:List (Nat×Nat)} (hat:0<=gU ns (bR ns i j).id) (hk:(nd ns (bZ ns (bR ns i j).id)).kind=2) :
 pZ (mf (pf ((iG ns i j++ps).map (lC ns)))) (.int .i64 (bR ns i j).id) (some (.int .i64 (nd ns i).id))=mf (pf ((iG ns i (j+1)++ps).map (lC ns))):=by
 rw [N8,qu hk,aiE,aiB,lC,(mR hat).2.1,acK]
theorem Zm {ns:List aO} {i j:Nat} {ps:List (Nat×Nat)} {f:Lit->Option Value} {kl:Lit} (hf:f kl=none) (hk:(nd ns (bZ ns (bR ns i j).id)).kind=2) :
 (if (f kl).isSome then (iG ns i j++ps).length else (iG ns i j++ps).length+1)=(iG ns i (j+1)++ps).length:=by
 rw [hf,qu hk]
 rfl
theorem TV {ns:List aO} {i j:Nat} {ps:List (Nat×Nat)} (hat:0<=gU ns (bR ns i j).id) (hk:(nd ns (bZ ns (bR ns i j).id)).kind=2) (hup:up ((iG ns i j++ps).map (lC ns)) (bR ns i j).id=none) (h:((iG ns i j++ps).map Prod.fst).Nodup) :
 ((iG ns i (j+1)++ps).map Prod.fst).Nodup:=by
 grind [qu,R9,mR,gU,bR,nd,bZ,up,iG,lC]
theorem Ol {ns:List aO} {i j:Nat} (h:∀t,t<j->xD ns i t):∀p,p∈iG ns i j->p.1<ns.length/\p.2=i:=by
 induction j with
 |zero=>intro p hp;cases hp
 |succ j ih=>
   intro p hp
   rw [iG] at hp
   rcases air.1 hp with hp|hp
   ·unfold R8 at hp
    split at hp
    ·rw [aiD.1 hp]
     exact⟨(mR (h j (aiA j)).at_).1,rfl⟩
    cases hp
   exact ih (λt ht=>h t d5) p hp
theorem Q8 {ns:List aO} {i j:Nat} {ps:List (Nat×Nat)} {y:Int} (hr:dM ns) (ay:∀p,p∈ps->p.1<ns.length) (hok:∀t,t<j->xD ns i t) (hat:0<=gU ns (bR ns i j).id) (hk:(nd ns (bZ ns (bR ns i j).id)).kind=2)
 (hup:up ((iG ns i j++ps).map (lC ns)) (bR ns i j).id=some y) (hj:j<(nd ns i).aq.length):¬Dm ns i ps:=λh=>by
 refine Co h hj hk ?_
 rw [←(mR hat).2.1] at hup
 refine (Sd hr (mR hat).1 (λp hp=>?_) hup).1
 rcases air.1 hp with hp|hp
 ·exact (Ol hok p hp).1
 exact ay p hp
end
section
open Go.RowKit
attribute [local irreducible] aB bJ av aF lQ
theorem Zn {β:Bs} (A:Option Addr) (ns:List aO) (L:fq) (hG:aN β A ns L) (hr:dM ns) (i:Nat) (hi:i<ns.length) (hel:(nd ns i).aq.length<=1048576) (hwf:∀j,j<(nd ns i).aq.length->-9223372036854775808<=(bR ns i j).id/\(bR ns i j).id<=9223372036854775807) (hnm:∀j,j<(nd ns i).aq.length->(bR ns i j).name.size<=1048576)
 (mb mp:Nat) (ps:List (Nat×Nat)) (hpl:ps.length<=16777216) (ay:∀p,p∈ps->p.1<ns.length) (hnp:(ps.map Prod.fst).Nodup) :
 aU Tryz.prog β 126 #[.pointer (some ⟨(bG A),bE A+i*10,none⟩),.map (some mb),.map (some mp)] [.abs (bM Tryz.prog 3 mb (mf (bf A ns ns.length)) ns.length),.abs (bM Tryz.prog 3 mp (mf (pf ((ps).map (lC ns)))) ((ps).length))] (λv l=>(v=.bool true/\Dm ns i ps/\l=[.abs (bM Tryz.prog 3 mb (mf (bf A ns ns.length)) ns.length),.abs (bM Tryz.prog 3 mp (mf (pf ((iG ns i (nd ns i).aq.length++ps).map (lC ns)))) ((iG ns i (nd ns i).aq.length++ps).length))])\/(v=.bool false/\¬Dm ns i ps/\l=[])):=by
 refine SE Tryz.func126 Tryz.ntmps126 (λR=>SR (jK 1 [] [] (NS (jK 1 [7] [] (NZ (jK 6 [16,17,18] [(3,r_ (aN.rd hG (i:=i) d5 (j:=9) rfl))] (NN (av.block (lJ (λ(j:Nat)=>(j<=(nd ns i).aq.length)/\(∀t,t<j->xD ns i t)/\(((iG ns i j++ps).map Prod.fst).Nodup)) (λ(j:Nat)=>(nd ns i).aq.length-j) (λ(j:Nat)=>[(0,.pointer (some ⟨(bG A),bE A+i*10,none⟩)),(1,.map (some mb)),(2,.map (some mp)),(7,.string (zS ns i j)),(16,.slice (L.eA i) ((nd ns i).aq.length) ((L.eC i))),(17,vI ↑((nd ns i).aq.length)),(18,vI ↑j)]) (λ(j:Nat)=>[.abs (bM Tryz.prog 3 mb (mf (bf A ns ns.length)) ns.length),.abs (bM Tryz.prog 3 mp (mf (pf ((iG ns i j++ps).map (lC ns)))) ((iG ns i j++ps).length)),.abs R]) 0 [0,1,2] (⟨L4 _,λt ht=>KB ht (N5 t),hnp⟩) ?_)))))))))
 rintro j ⟨hj,hok,hnd⟩
 refine SR (jK 1 [19] [] (NN (av.seq (cP ((((j:Nat):Int):Int)<((((nd ns i).aq.length:Nat):Int):Int)) (λGS=>KX (av.seq (av.block (SR (jN 4 [9] (λb1=>[(0,x_ j ((nd ns i).aq.length) (cV.hd (hG.aq i d5) (i:=j) d5)),(1,r2 (cV.rd (hG.aq i d5) (i:=j) d5 (j:=0) rfl) (cV.rd (hG.aq i d5) (i:=j) d5 (j:=1) rfl)),(3,A_ 3 b1 2)]) (λ_=>[]) (λb1=>.aD b1 [.string (en (nd ns i).aq j).name,vI ((en (nd ns i).aq j).id)] 126) (λb1=>NS (jK 3 [22,24] [(2,a_ 3 b1)] ?_))))))) (λGS=>XX (zR (l:=[.abs (bM Tryz.prog 3 mb (mf (bf A ns ns.length)) ns.length),.abs (bM Tryz.prog 3 mp (mf (pf ((iG ns i j++ps).map (lC ns)))) ((iG ns i j++ps).length))]) (.inl ⟨rfl,⟨λt ht=>hok t d5,gn⟩,gn⟩)))))))
 by_cases hat:0<=gU ns (en (nd ns i).aq j).id
 ·have htl:=mR hat
  refine aB.jo 0 (d:=(some 25)) (t:=238) (K:=3) (E:=256) (b:=mb) (n:=ns.length) (f:=(mf (bf A ns ns.length))) (x:=(.tmp 22)) (ix:=(.tmp 24)) (key:=vI ((en (nd ns i).aq j).id)) (z:=.pointer none) (kl:=(.int .i64 (en (nd ns i).aq j).id)) (r:=(some (.pointer (some ⟨(bG A),bE A+(bZ ns (en (nd ns i).aq j).id)*10,none⟩)))) (λ_=>d6) d6 (λ_=>d6) (λ_=>d6) jf Tryz.underlying238 (λ_=>d6) (wQ (hwf j d5).1 (hwf j d5).2) (af2 hat htl.1) (jK 1 [10] [] (NZ (jK 5 [28,30] [(4,a_ 3 b1)] (gE [] (zP (en (nd ns i).aq j).name (hnm j d5)) (jK 3 [34] [] (sN 34 (bW (en (nd ns i).aq j).name) (λxU=>jK 5 [39] [] (NT (zR (.inr ⟨rfl,λh=>xU (h.aq j d5).good,rfl⟩) [2]))) (λxU=>jK 5 [39] [(1,a_ 3 b1),(3,w_ (.bool (decide (ja ((en (nd ns i).aq j).name) (zS ns i j)))) (Oi _ _))] (NN (cP (ja ((en (nd ns i).aq j).name) (zS ns i j)) (λlY=>zR (.inr ⟨rfl,λh=>(h.aq j d5).ord lY,rfl⟩) [2]) (λlY=>KX (SR (jK 3 [7] [(1,a_ 3 b1)] (NZ (jK 5 [46] [(3,r_ (aN.rd hG (i:=(bZ ns (en (nd ns i).aq j).id)) d5 (j:=1) rfl))] (NN (cN (((nd ns (bZ ns (en (nd ns i).aq j).id)).kind:Int)=(2:Int)) (λh46=>XX (av.region (aB.cR 1 (p':=.abs (bM Tryz.prog 3 mp (mf (pf ((iG ns i (j+1)++ps).map (lC ns)))) ((iG ns i (j+1)++ps).length))) rfl (by rw [q8 h46]) (jK 2 [18] [(0,wJ ((j:Int)+1) (↑(j+1)))] (NL (tJ ((j+1)) [0,1,2] (⟨d5,λt ht=>(by rcases Pd.1 ht with h|h;exact hok t h;subst h;exact⟨hat,xU,lY⟩),(by rw [q8 h46];exact hnd)⟩))))))) (λh46=>KX (SQ (jK 3 [48,50] [(2,a_ 3 b1)] ?_)))))))))))))))))))
  rcases hup:up ((iG ns i j++ps).map (lC ns)) (en (nd ns i).aq j).id with _|y
  ·exact aB.Be 1 (d:=(some 51)) (t:=134) (K:=3) (E:=3) (b:=mp) (n:=(iG ns i j++ps).length) (f:=(mf (pf ((iG ns i j++ps).map (lC ns))))) (x:=(.tmp 48)) (ix:=(.tmp 50)) (key:=vI ((en (nd ns i).aq j).id)) (z:=.int .i64 0) (kl:=(.int .i64 (en (nd ns i).aq j).id)) (r:=none) (λ_=>d6) d6 (λ_=>d6) (λ_=>d6) jf Tryz.underlying134 (λ_=>d6) (wQ (hwf j d5).1 (hwf j d5).2) (Dk hup) (jK 5 [12] [] (NS (jK 1 [54] [] (NF (KX (av.Cm 7 d6 d6 (lQ.seg (k':=7) (bN:=[(0,.pointer (some ⟨(bG A),bE A+i*10,none⟩)),(1,.map (some mb)),(2,.map (some mp)),(7,.string (en (nd ns i).aq j).name),(16,.slice (L.eA i) ((nd ns i).aq.length) ((L.eC i))),(17,vI ↑((nd ns i).aq.length)),(18,vI ↑j),(55,.map (some mp)),(57,vI ((en (nd ns i).aq j).id)),(61,vI ((nd ns i).id))]) (eT:=[(Rd β ⟨(bG A),bE A+i*10,none⟩ (vI ((nd ns i).id))),b1=b1]) [o_,o_,⟨[.at 3],none,none,none,none⟩,o_,o_,o_,⟨[.old (.int .i64 ((nd ns i).id))],none,none,none,none⟩] [0,1,2,7,16,17,18,55,57,61] (λ_ _=>d6) ⟨aN.rd hG (i:=i) d5 (j:=0) rfl,rfl,trivial⟩ d8 (lQ.done rfl (aB.qI 1 (d:=none) (t:=134) (K:=3) (E:=3) (b:=mp) (n:=(iG ns i j++ps).length) (f:=(mf (pf ((iG ns i j++ps).map (lC ns))))) (x:=(.tmp 55)) (ix:=(.tmp 57)) (y:=(.tmp 61)) (key:=vI ((en (nd ns i).aq j).id)) (u:=.int .i64 ((nd ns i).id)) (kl:=(.int .i64 (en (nd ns i).aq j).id)) (n':=(iG ns i (j+1)++ps).length) (f':=(mf (pf ((iG ns i (j+1)++ps).map (lC ns))))) (λ_=>d6) d6 (λ_=>d6) (λ_=>d6) (λ_=>d6) jf Tryz.underlying134 (by have:=Oj ns i j;rw [T3];unfold maxLen;omega) (wQ (hwf j d5).1 (hwf j d5).2) (Zm (Dk hup) h46) (Zl hat h46) (LX (av.region (jK 2 [18] [(0,wJ ((j:Int)+1) (↑(j+1)))] (NL (tJ ((j+1)) [0,1,2] (⟨d5,λt ht=>(by rcases Pd.1 ht with h|h;exact hok t h;subst h;exact⟨hat,xU,lY⟩),(TV hat h46 hup hnd)⟩)))))))))))))))
  exact aB.Be 1 (d:=(some 51)) (t:=134) (K:=3) (E:=3) (b:=mp) (n:=(iG ns i j++ps).length) (f:=(mf (pf ((iG ns i j++ps).map (lC ns))))) (x:=(.tmp 48)) (ix:=(.tmp 50)) (key:=vI ((en (nd ns i).aq j).id)) (z:=.int .i64 0) (kl:=(.int .i64 (en (nd ns i).aq j).id)) (r:=(some (vI y))) (λ_=>d6) d6 (λ_=>d6) (λ_=>d6) jf Tryz.underlying134 (λ_=>d6) (wQ (hwf j d5).1 (hwf j d5).2) (abN hup) (jK 5 [12] [] (NS (jK 1 [54] [] (NT (zR (.inr ⟨rfl,Q8 hr ay hok hat h46 hup d5,rfl⟩) [2])))))
 exact aB.jo 0 (d:=(some 25)) (t:=238) (K:=3) (E:=256) (b:=mb) (n:=ns.length) (f:=(mf (bf A ns ns.length))) (x:=(.tmp 22)) (ix:=(.tmp 24)) (key:=vI ((en (nd ns i).aq j).id)) (z:=.pointer none) (kl:=(.int .i64 (en (nd ns i).aq j).id)) (r:=none) (λ_=>d6) d6 (λ_=>d6) (λ_=>d6) jf Tryz.underlying238 (λ_=>d6) (wQ (hwf j d5).1 (hwf j d5).2) (acM hat) (jK 1 [10] [] (NZ (jK 14 [39] [] (NT (zR (.inr ⟨rfl,λh=>hat (h.aq j d5).at_,rfl⟩) [2])))))
end
section
open Go.RowKit Go.Maps
def dX (ns:List aO):Nat->Nat
 |0=>0
 |k+1=>dX ns k+(nd ns k).aq.length
def qK (ns:List aO):Nat->Int
 |0=>0
 |k+1=>(nd ns k).id
structure cE (ns:List aO):Prop where
 len:ns.length<=4096
 node:∀i,i<ns.length->si (nd ns i)
 ids:∀i,i<ns.length->1<=(nd ns i).id/\(nd ns i).id<=1099511627776
 fU:dM ns
 sum:dX ns ns.length<=8192
 aq:∀i,i<ns.length->∀j,j<(nd ns i).aq.length->xD ns i j
 nodup:((jx ns ns.length).map Prod.fst).Nodup
 ends:CH ((jx ns ns.length).map (lC ns))
noncomputable instance (ns:List aO):Decidable (cE ns):=Classical.propDecidable _
theorem cE.last {ns:List aO} (h:cE ns) {k:Nat} (hk:k<ns.length):qK ns k<(nd ns k).id:=by
 cases k with
 |zero=>have:=(h.ids 0 hk).1;show (0:Int)<_;omega
 |succ k=>exact h.fU k (k+1) (aiA k) hk
structure wS (ns:List aO) (k:Nat):Prop where
 node:∀i,i<k->si (nd ns i)
 ids:∀i,i<k->1<=(nd ns i).id/\(nd ns i).id<=1099511627776
 fU:∀i j,i<j->j<k->(nd ns i).id<(nd ns j).id
theorem wS.zero (ns:List aO):wS ns 0:=⟨λi h=>KB h (N5 i),λi h=>KB h (N5 i),λ_ j _ h=>KB h (N5 j)⟩
theorem wS.last {ns:List aO} {k:Nat} (h:wS ns k):0<=qK ns k/\qK ns k<=1099511627776:=by
 cases k with
 |zero=>exact⟨Int.le_refl _,by show (0:Int)<=1099511627776;decide⟩
 |succ k=>have:=h.ids k (aiA k);exact⟨by show 0<=(nd ns k).id;omega,this.2⟩
theorem wS.step {ns:List aO} {k:Nat} (h:wS ns k) (h1:qK ns k<(nd ns k).id) (h2:(nd ns k).id<=1099511627776) (h3:si (nd ns k)):wS ns (k+1):=by
 have hl:=h.last
 refine⟨λi hi=>?_,λi hi=>?_,λi j hij hj=>?_⟩
 ·rcases Pd.1 hi with e|e
  ·exact h.node i e
  rw [e];exact h3
 ·rcases Pd.1 hi with e|e
  ·exact h.ids i e
  rw [e];omega
 rcases Pd.1 hj with e|e
 ·exact h.fU i j hij e
 subst e
 cases j with
 |zero=>omega
 |succ m=>
   have h4:(nd ns m).id<(nd ns (m+1)).id:=h1
   rcases Pd.1 hij with e|e
   ·have:=h.fU i m e (aiA m);omega
   rw [e];exact h4
theorem Om {ns:List aO} {k:Nat} (h:∀i,i<k->(nd ns i).id<(nd ns k).id) (hk:k<ns.length):gU ns (nd ns k).id=(k:Int):=by
 unfold gU
 have hg:∀j (hj:j<ns.length),nd ns j=ns[j]:=λj hj=>by
  grind [nd]
 have:ns.findIdx? (λn=>n.id == (nd ns k).id)=some k:=by
  rw [aiN]
  grind
 rw [this]
theorem ad6 {A:Option Addr} {ns:List aO} {k:Nat} (h:∀i,i<k->(nd ns i).id<(nd ns k).id) (hk:k<ns.length) :
 pZ (mf (bf A ns k)) (.int .i64 (nd ns k).id) (some (.pointer (some ⟨bG A,bE A+k*10,none⟩)))=mf (bf A ns (k+1)):=by
 have ha:=Om h hk
 rw [N8]
 congr 1
 funext z
 unfold bf
 by_cases e:z=(nd ns k).id
 ·grind [bZ]
 rw [nw e]
 by_cases e1:0<=gU ns z/\gU ns z<(k:Int)
 ·rw [t8 e1,t8 ⟨e1.1,d5⟩]
 rw [nw e1,nw (λe2=>?_)]
 have e3:gU ns z=(k:Int):=d5
 have e4:=(mR e2.1).2
 grind
theorem Zo {A:Option Addr} {ns:List aO} {k:Nat} (h:∀i,i<k->(nd ns i).id<(nd ns k).id) (hk:k<ns.length):(if ((mf (bf A ns k)) (.int .i64 (nd ns k).id)).isSome then k else k+1)=k+1:=by
 grind [Om,mf,bf,nd]
theorem wS.below {ns:List aO} {k:Nat} (h:wS ns k) (h1:qK ns k<(nd ns k).id):∀i,i<k->(nd ns i).id<(nd ns k).id:=by
 intro i hi
 cases k with
 |zero=>omega
 |succ m=>
   have h1:(nd ns m).id<(nd ns (m+1)).id:=h1
   rcases Pd.1 hi with e|e
   ·have:=h.fU i m e (aiA m);omega
   rw [e];exact h1
theorem acN {A:Option Addr} {ns:List aO}:mf (bf A ns 0)=λ_=>none:=by
 rw [←Kz]
 congr 1
 funext z
 exact nw (λe=>d5)
theorem acO {ns:List aO}:mf (pf ((jx ns 0).map (lC ns)))=λ_=>none:=by
 rw [←Kz]
 congr 1
theorem zT {ns:List aO} {i:Nat} (hi:i<=ns.length) (h:∀a,a<i->∀j,j<(nd ns a).aq.length->xD ns a j):∀p,p∈jx ns i->p.1<ns.length/\p.2<ns.length:=by
 induction i with
 |zero=>intro p hp;cases hp
 |succ i ih=>
   intro p hp
   grind [jx,Ol]
theorem Oo (ns:List aO) (i:Nat):(jx ns i).length<=dX ns i:=by
 induction i with
 |zero=>exact N6 _
 |succ i ih=>
   grind [jx,dX,Oj,nd]
theorem qv {ns:List aO} {i m:Nat} (h:i<=m):dX ns i<=dX ns m:=by
 induction m with
 |zero=>rw [Nat.le_zero.1 h];exact N6 _
 |succ m ih=>
   grind [dX]
theorem Wh {ns:List aO} {ps:List (Nat×Nat)} (hp:∀p,p∈ps->p.1<ns.length/\p.2<ns.length) (hid:∀i,i<ns.length->1<=(nd ns i).id/\(nd ns i).id<=1099511627776) :
 ∀z y,up (ps.map (lC ns)) z=some y->(-9223372036854775808<=z/\z<=9223372036854775807)/\(-9223372036854775808<=y/\y<=9223372036854775807):=by
 intro z y h
 unfold up at h
 induction ps with
 |nil=>cases h
 |cons p ps ih=>
   grind [lC,nd]
theorem ad7 {p:Prop} [Decidable p] {v:Value} {l:List HP} (h:v=.bool (decide p)/\l=[]):(v=.bool true/\p/\l=[])\/(v=.bool false/\¬p/\l=[]):=by
 by_cases hp:p
 all_goals grind
theorem Dm.next {ns:List aO} {i:Nat} (h:Dm ns i (jx ns i)):((jx ns (i+1)).map Prod.fst).Nodup:=h.nodup
theorem cE.row {ns:List aO} (h:cE ns) {i:Nat} (hi:i<ns.length):Dm ns i (jx ns i):=by
 refine⟨h.aq i hi,?_⟩
 obtain⟨l,hl⟩:=Wg (ns:=ns) (show i+1<=ns.length from hi)
 have:=h.nodup
 rw [hl] at this
 exact EF this
end
section
open Go.RowKit
attribute [local irreducible] aB bJ av aF
theorem acP {β:Bs} (A:Option Addr) (c:Nat) (ns:List aO) (L:fq) (hG:aN β A ns L) (hl:ns.length<=1048576) (hd:∀i,i<ns.length->(nd ns i).data.length<=140737488355328/\(nd ns i).aq.length<=1048576) (hwf:∀i,i<ns.length->∀j,j<(nd ns i).aq.length->-9223372036854775808<=(bR ns i j).id/\(bR ns i j).id<=9223372036854775807) (hnm:∀i,i<ns.length->∀j,j<(nd ns i).aq.length->(bR ns i j).name.size<=1048576) :
 aU Tryz.prog β 109 #[.agg #[.slice A ns.length c]] [] (λv l=>(∃mb,v=.tuple #[.map (some mb),.bool true]/\cE ns/\l=[.abs (bM Tryz.prog 3 mb (mf (bf A ns ns.length)) ns.length)])\/(∃m,v=.tuple #[m,.bool false]/\¬cE ns/\l=[])):=by
 refine SE Tryz.func109 Tryz.ntmps109 (λR=>SR (jB 3 [1] (λb1=>.aD b1 [.slice A (ns.length) (c)] 24) (λb1=>NZ (jK 4 [14] [(1,a_ 1 b1)] (NN (cP ((((ns.length:Nat):Int):Int)>(4096:Int)) (λnO=>zR (v:=(.tuple #[.map none,.bool false])) (.inr ⟨_,rfl,λh=>by have:=h.len;omega,rfl⟩)) (λnO=>KX (SR (aB.sX (d:=(some 15)) (t:=238) (λ_=>d6) Tryz.prog rfl 3 (λm2=>jK 1 [4] [] (NS (aB.cR 2 (p:=.abs (bM Tryz.prog 3 m2 (λ_=>none) 0)) (p':=.abs (bM Tryz.prog 3 m2 (mf (bf A ns 0)) 0)) d6 (by rw [acN]) (jK 2 [5,6] [] (NZ (jK 4 [18,19] [(1,a_ 1 b1)] (NN (av.block (lJ (ι:=Nat) (λ(k:Nat)=>(k<=ns.length)/\(wS ns k)/\(dX ns k<=k*1048576)) (λ(k:Nat)=>ns.length-k) (λ(k:Nat)=>[(1,vP b1),(4,.map (some m2)),(5,vI (qK ns k)),(6,vI ↑(dX ns k)),(18,vI ↑ns.length),(19,vI ↑k)]) (λ(k:Nat)=>[.aD b1 [.slice A (ns.length) (c)] 24,.abs (bM Tryz.prog 3 m2 (mf (bf A ns k)) k),.abs R]) 0 [1,2,0] (⟨L4 _,wS.zero ns,L4 _⟩) ?_))))))))))))))))))
 rintro k ⟨hk,hu,hs⟩
 have hk4:=(hd k)
 refine SR (jK 1 [20] [] (NN (av.seq (cP ((((k:Nat):Int):Int)<(((ns.length:Nat):Int):Int)) (λlZ=>KX (av.seq (av.block (SR (jK 2 [7] [] (NS (jK 5 [8] [(1,a_ 0 b1),(3,x_ k ns.length (aN.hd hG (i:=k) d5))] (NZ (jK 7 [32] [(3,r_ (aN.rd hG (i:=k) d5 (j:=0) rfl))] (sP 32 (((nd ns k).id:Int)<=(qK ns k:Int)) (λr9=>jK 11 [43] [] (NT (zR (v:=(.tuple #[.map none,.bool false])) (.inr ⟨_,rfl,λh=>by have:=h.last (show k<ns.length by omega);omega,rfl⟩) [2]))) (λr9=>jK 7 [39] [(3,r_ (aN.rd hG (i:=k) d5 (j:=0) rfl))] (sP 39 (((nd ns k).id:Int)>(1099511627776:Int)) (λlY=>jK 4 [43] [] (NT (zR (v:=(.tuple #[.map none,.bool false])) (.inr ⟨_,rfl,λh=>by have:=(h.ids k d5).2;omega,rfl⟩) [2]))) (λlY=>jK 1 [40] [] (gE [] (Zk A ns L hG k d5) (jK 2 [43] [] (NN (cN (si (nd ns k)) (λJi=>zR (v:=(.tuple #[.map none,.bool false])) (.inr ⟨_,rfl,λh=>Ji (h.node k d5),rfl⟩) [2]) (λJi=>KX (SR (jK 5 [5] [(3,r_ (aN.rd hG (i:=k) d5 (j:=0) rfl))] (NS (jK 6 [48,52,53] [(4,r_ (aN.rd hG (i:=k) d5 (j:=0) rfl))] (aB.qI 1 (d:=none) (t:=238) (K:=3) (E:=256) (b:=m2) (n:=k) (f:=(mf (bf A ns k))) (x:=(.tmp 48)) (ix:=(.tmp 52)) (y:=(.tmp 53)) (key:=vI ((nd ns k).id)) (u:=.pointer (some ⟨(bG A),bE A+k*10,none⟩)) (kl:=(.int .i64 (nd ns k).id)) (n':=k+1) (f':=(mf (bf A ns (k+1)))) (λ_=>d6) d6 (λ_=>d6) (λ_=>d6) (λ_=>d6) jf Tryz.underlying238 (by unfold maxLen;omega) (wQ (by have:=hu.last;omega) d5) (Zo (hu.below d5) d5) (ad6 (hu.below d5) d5) (NN (av.region (jK 8 [6] [(4,r_ (aN.rd hG (i:=k) d5 (j:=9) rfl)),(6,wJ (((dX ns k:Nat):Int)+(((nd ns k).aq.length:Nat):Int)) (↑((dX ns k)+((nd ns k).aq.length))))] (LX (av.region (jK 2 [19] [(0,wJ ((k:Int)+1) (↑(k+1)))] (NL (tJ ((k+1)) [0,1,2] (⟨d5,hu.step d5 d5 Ji,by grind [dX]⟩)))))))))))))))))))))))))))))))) (λlZ=>XX (SQ (jK 2 [63] [] (NN (cP ((((dX ns k:Nat):Int):Int)>(8192:Int)) (λh63=>zR (v:=(.tuple #[.map none,.bool false])) (.inr ⟨_,rfl,λh=>by have h1:=h.sum;grind,rfl⟩) [2]) (λh63=>KX (SR (aB.sX (d:=(some 64)) (t:=134) (λ_=>d6) Tryz.prog rfl 3 (λm3=>jK 1 [9] [] (NZ (aB.cR 3 (p:=.abs (bM Tryz.prog 3 m3 (λ_=>none) 0)) (p':=.abs (bM Tryz.prog 3 m3 (mf (pf ((jx ns 0).map (lC ns)))) ((jx ns 0).length))) d6 (by rw [acO];rfl) (aB.cR 1 (p:=.abs (bM Tryz.prog 3 m2 (mf (bf A ns k)) k)) (p':=.abs (bM Tryz.prog 3 m2 (mf (bf A ns ns.length)) ns.length)) d6 (by rw [show k=ns.length by omega]) (jK 4 [67,68] [(1,a_ 0 b1)] (NN (av.block ?_)))))))))))))))))))
 have Dn:dM ns:=λa b gF hb=>hu.fU a b gF d5
 have hsum:dX ns ns.length<=8192:=by rw [show ns.length=k by omega];omega
 refine lJ (ι:=Nat) (λ(i:Nat)=>(i<=ns.length)/\(∀a,a<i->∀j,j<(nd ns a).aq.length->xD ns a j)/\(((jx ns i).map Prod.fst).Nodup)) (λ(i:Nat)=>ns.length-i) (λ(i:Nat)=>[(1,vP b1),(4,.map (some m2)),(9,.map (some m3)),(67,vI ↑ns.length),(68,vI ↑i)]) (λ(i:Nat)=>[.aD b1 [.slice A (ns.length) (c)] 24,.abs (bM Tryz.prog 3 m2 (mf (bf A ns ns.length)) ns.length),.abs (bM Tryz.prog 3 m3 (mf (pf ((jx ns i).map (lC ns)))) ((jx ns i).length)),.abs R]) 0 [0,1,3,2] (⟨L4 _,λa ha=>KB ha (N5 a),List.nodup_nil⟩) ?_
 rintro i ⟨hi,Bl,hnd⟩
 refine SR (jK 1 [69] [] (NN (av.seq (cP ((((i:Nat):Int):Int)<(((ns.length:Nat):Int):Int)) (λh69=>?_) (λh69=>?_)))))
 ·refine KX (av.seq (av.block (SR (jK 2 [10] [] (NS (jK 6 [74,75,76] [(1,a_ 0 b1),(3,x_ i ns.length (aN.hd hG (i:=i) d5))] (gL [1,2] (Zn A ns L hG Dn i d5 (hd i d5).2 (hwf i d5) (hnm i d5) m2 m3 (jx ns i) (by have:=Oo ns i;have:=qv (ns:=ns) (show i<=ns.length by omega);omega) (λp hp=>(zT d5 Bl p hp).1) hnd) ?_)))))))
  rintro _ _ (⟨rfl,hro,rfl⟩|⟨rfl,hro,rfl⟩)
  ·exact jK 1 [78] [] (NF (KX (av.region (jK 2 [68] [(0,wJ ((i:Int)+1) (↑(i+1)))] (NL (tJ ((i+1)) [2,0,1,3] (⟨d5,λa ha=>(by rcases Pd.1 ha with h|h;exact Bl a h;subst h;exact hro.aq),hro.next⟩)))))))
  exact jK 1 [78] [] (NT (zR (v:=(.tuple #[.map none,.bool false])) (.inr ⟨_,rfl,λh=>hro (h.row d5),rfl⟩) [1]))
 refine XX (SR (jK 2 [80,81] [] (aB.cR 2 (p:=.abs (bM Tryz.prog 3 m3 (mf (pf ((jx ns i).map (lC ns)))) ((jx ns i).length))) (p':=.abs (bM Tryz.prog 3 m3 (mf (pf ((jx ns i).map (lC ns)))) (((jx ns i).map (lC ns)).length))) d6 (by rw [aip]) (gL [2] ((Wb m3 ((jx ns i).map (lC ns)) (by grind [Oo,qv]) (Wh (zT d5 Bl) (λa ha=>hu.ids a d5))).mono (λv l h=>ad7 h)) ?_))))
 rintro _ _ (⟨rfl,hae,rfl⟩|⟨rfl,hae,rfl⟩)
 ·exact jK 2 [2,3] [] (eN (v:=(.tuple #[.map (some m2),.bool true])) (.inl ⟨m2,rfl,⟨d5,λa ha=>hu.node a d5,λa ha=>hu.ids a d5,Dn,d5,λa ha=>Bl a d5,gn,gn⟩,rfl⟩) [1,2])
 exact jK 2 [2,3] [] (eN (v:=(.tuple #[.map (some m2),.bool false])) (.inr ⟨_,rfl,λh=>hae (by have:=h.ends;grind),rfl⟩) [2])
theorem Zp {β:Bs} (A:Option Addr) (c:Nat) (ns:List aO) (L:fq) (hG:aN β A ns L) (hl:ns.length<=1048576) (hd:∀i,i<ns.length->(nd ns i).data.length<=140737488355328/\(nd ns i).aq.length<=1048576) (hwf:∀i,i<ns.length->∀j,j<(nd ns i).aq.length->-9223372036854775808<=(bR ns i j).id/\(bR ns i j).id<=9223372036854775807) (hnm:∀i,i<ns.length->∀j,j<(nd ns i).aq.length->(bR ns i j).name.size<=1048576) :
 aU Tryz.prog β 78 #[.agg #[.slice A ns.length c]] [] (λv l=>v=vI (if cE ns then 0 else 140)/\l=[]):=by
 refine SE Tryz.func78 Tryz.ntmps78 (λR=>SR (jB 2 [1] (λb4=>.aD b4 [.slice A (ns.length) (c)] 24) (λb4=>NZ (jK 1 [6] [(0,a_ 1 b4)] (gL [] (acP A c ns L hG hl hd hwf hnm) ?_)))))
 rintro _ _ (⟨mb,rfl,hok,rfl⟩|⟨m,rfl,hok,rfl⟩)
 ·exact jK 5 [4] [] (NS (jK 2 [11] [] (NF (KX (zR ⟨zc (Value.int .i64) (t8 hok).symm,rfl⟩ [1])))))
 exact jK 5 [4] [] (NS (jK 2 [11] [] (NT (zR ⟨zc (Value.int .i64) (nw hok).symm,rfl⟩))))
end
section
open Go.RowKit Go.Maps
def Dp (ed:List (Nat×Nat)) (k:Nat):Int:=match ed.lookup k with|some a=>(a:Int)|none=>-1
structure Oq (n:Nat) (pl:List Int) (ed:List (Nat×Nat)):Prop where
 len:pl.length=n
 at_:∀k,k<n->pl.getD k 0=Dp ed k
theorem Bn {w:List Int} {j:Nat} (hj:j<w.length):(j9 w)[j]?=some (.int .i64 (w.getD j 0)):=by
 grind [j9,getD_some]
theorem EG (pl:List Int) (k:Nat) (x:Int):(j9 pl).set k (.int .i64 x)=j9 (pl.set k x):=by
 unfold j9
 rw [List.map_set]
theorem Ot {pl:List Int} {k j:Nat} {x:Int} (hk:k<pl.length):(pl.set k x).getD j 0=if j=k then x else pl.getD j 0:=by
 grind
theorem Oq.put {n:Nat} {pl:List Int} {ed:List (Nat×Nat)} (h:Oq n pl ed) {k a:Nat} (hk:k<n):Oq n (pl.set k (a:Int)) ((k,a)::ed):=by
 refine⟨by rw [T7];exact h.len,λj hj=>?_⟩
 rw [Ot (by rw [h.len];exact hk)]
 unfold Dp
 rw [List.lookup_cons]
 by_cases e:j=k
 ·subst e;simp
 have:(j == k)=false:=by simp [e]
 rw [nw e,this,h.at_ j hj]
 rfl
theorem Bo {ed:List (Nat×Nat)} {k:Nat}:Dp ed k<0↔k∉ed.map Prod.fst:=by
 grind [Dp]
theorem acQ {ns:List aO} {ed:List (Nat×Nat)} {k:Nat} (hr:dM ns) (hk:k<ns.length) (hp:∀p,p∈ed->p.1<ns.length) :
 (Dp ed k<0/\up (ed.map (lC ns)) (nd ns k).id=none)\/∃a:Nat,Dp ed k=(a:Int)/\(k,a)∈ed/\up (ed.map (lC ns)) (nd ns k).id=some (nd ns a).id:=by
 unfold Dp up
 induction ed with
 |nil=>exact .inl ⟨nh,rfl⟩
 |cons p ed ih=>
   obtain⟨a,b⟩:=p
   rw [aiB,lC,List.lookup_cons,List.lookup_cons]
   by_cases e:k=a
   ·grind
   have h1:(k == a)=false:=by simp [e]
   have h2:((nd ns k).id == (nd ns a).id)=false:=by
    simp
    exact λh=>e (hr.inj hk (hp (a,b) (T5 ..)) h)
   grind
theorem Way.back {ps:List (Int×Int)} {z0:Int} {w:List Int} (h:Way ps z0 w z0) (hl:0<w.length):¬Ends ps z0:=λ⟨k,hk⟩=>by
 obtain⟨j,hj,h2⟩:=h.long hk
 have:=ol.uniq hk h2
 omega
theorem Ou:∀(n:Nat) (l:List Nat),l.Nodup->(∀x,x∈l->x<n)->l.length<=n
 |0,[],_,_=>N6 _
 |0,a::l,_,h=>KB (h a (T5 ..)) (N5 a)
 |n+1,l,hn,h=>by
   have h1:=Ou n (l.erase n) (hn.erase n) (λx hx=>by
    have h2:=(List.Nodup.mem_erase_iff hn).1 hx
    have:=h x h2.2
    omega)
   by_cases hm:n∈l
   ·have:=List.length_erase_of_mem hm
    omega
   rw [List.erase_of_not_mem hm] at h1
   omega
theorem Wi {ns:List aO} {ed:List (Nat×Nat)} (hp:∀p,p∈ed->p.1<ns.length) (h:∀i,i<ns.length->Ends (ed.map (lC ns)) (nd ns i).id):CH (ed.map (lC ns)):=by
 intro z
 cases hu:up (ed.map (lC ns)) z with
 |none=>exact⟨0,hu⟩
 |some y=>
   have:∃p,p∈ed/\z=(nd ns p.1).id:=by
    unfold up at hu
    clear h
    induction ed with
    |nil=>cases hu
    |cons p ed ih=>
      grind [lC,nd]
   obtain⟨p,h1,rfl⟩:=this
   exact h p.1 (hp p h1)
theorem Ov {ns:List aO} {ed:List (Nat×Nat)} {pl:List Int} {z:Int} {b m:Nat} {w:List Int} (hr:dM ns) (hp:∀p,p∈ed->p.1<ns.length/\p.2<ns.length) (hpar:Oq ns.length pl ed) (hb:b<ns.length) (hw:Way (ed.map (lC ns)) z w (nd ns b).id) (hm:w.length=m) :
 (pl.getD b 0<0/\Ends (ed.map (lC ns)) z)\/∃q:Nat,pl.getD b 0=(q:Int)/\q<ns.length/\Way (ed.map (lC ns)) z (w++[(nd ns b).id]) (nd ns q).id/\(w++[(nd ns b).id]).length=m+1:=by
 rw [hpar.at_ b hb]
 rcases acQ hr hb (λp h=>(hp p h).1) with ⟨h1,h2⟩|⟨a,h1,h2,h3⟩
 ·exact .inl ⟨h1,(hw.ends ⟨0,h2⟩).1⟩
 exact .inr ⟨a,h1,(hp _ h2).2,hw.snoc h3,by simp;omega⟩
theorem Dq {ns:List aO} {i j:Nat} (h1:0<=gU ns (bR ns i j).id) (h2:bW (bR ns i j).name) (h3:0<j->¬ja (bR ns i j).name (bR ns i (j-1)).name):xD ns i j:=by
 refine⟨h1,h2,?_⟩
 cases j with
 |zero=>
   intro h
   have:=Q7.1 h
   have h4:=h2.1
   rw [this] at h4
   exact KB h4 (by decide)
 |succ j=>exact h3 (Nat.succ_pos j)
theorem TW {ns:List aO} {k:Nat} (h:0<k):qK ns k=(nd ns (k-1)).id:=by
 cases k with
 |zero=>omega
 |succ k=>rfl
theorem Ow {ns:List aO} {i j:Nat} (h:0<j):zS ns i j=(bR ns i (j-1)).name:=by
 cases j with
 |zero=>omega
 |succ j=>rfl
theorem cE.few {ns:List aO} (h:cE ns):((jx ns ns.length).map (lC ns)).length<=ns.length:=by
 rw [aip]
 have h1:=zT (ns:=ns) (N6 _) h.aq
 have h2:=Ou ns.length ((jx ns ns.length).map Prod.fst) h.nodup (λx hx=>by
  obtain⟨p,hp,rfl⟩:=aik.1 hx
  exact (h1 p hp).1)
 rwa [aip] at h2
end
section
open Go.RowKit
attribute [local irreducible] aB bJ av aF
theorem Q9 {β:Bs} (A:Option Addr) (c:Nat) (ns:List aO) (L:fq) (hG:aN β A ns L) (hl:ns.length<=1048576) (hd:∀i,i<ns.length->(nd ns i).data.length<=1048576/\(nd ns i).aq.length<=1048576) (_:∀i,i<ns.length->∀j,j<(nd ns i).aq.length->-9223372036854775808<=(bR ns i j).id/\(bR ns i j).id<=9223372036854775807) (hnm:∀i,i<ns.length->∀j,j<(nd ns i).aq.length->(bR ns i j).name.size<=1048576) (ht:∀i,i<ns.length->(nd ns i).target.size<=1048576) :
 aU Tryz.prog β 56 #[.agg #[.slice A ns.length c]] [] (λv l=>v=vI (if cE ns then 0 else 140)/\l=[]):=by
 refine SE Tryz.func56 Tryz.ntmps56 (λR=>SR (jB 2 [1] (λb1=>.aD b1 [.slice A (ns.length) (c)] 24) (λb1=>NZ (jK 4 [18] [(1,a_ 1 b1)] (NN (cP ((((ns.length:Nat):Int):Int)>(4096:Int)) (λpQ=>zR ⟨zc (Value.int .i64) (nw (c:=cE ns) (λh=>by have:=h.len;omega)).symm,rfl⟩) (λpQ=>KX (SR (jK 1 [3] [] (NZ (jK 1 [4] [] (NN (av.block (lJ (λ(k:Nat)=>(k<=ns.length)/\(wS ns k)/\(dX ns k<=k*1048576)) (λ(k:Nat)=>ns.length-k) (λ(k:Nat)=>[(1,vP b1),(3,vI ↑(dX ns k)),(4,vI ↑k)]) (λ(k:Nat)=>[.aD b1 [.slice A (ns.length) (c)] 24,.abs R]) 0 [1,0] (⟨L4 _,wS.zero ns,L4 _⟩) ?_))))))))))))))
 rintro k ⟨hk,hu,hs⟩
 have hk4:=(hd k)
 refine SQ (jK 5 [23] [(2,a_ 0 b1)] (NN (cP ((((k:Nat):Int):Int)<(((ns.length:Nat):Int):Int)) (λh23=>KX (av.seq (av.block (SR (jN 7 [5] (λb2=>[(1,a_ 0 b1),(3,x_ k ns.length (aN.hd hG (i:=k) d5)),(4,Et (iT L k (nd ns k)) (λ_ _ h=>aN.rd hG d5 h)),(6,A_ 2 b2 10)]) (λ_=>[]) (λb2=>.aD b2 (iT L k (nd ns k)) 102) (λb2=>NN (av.seq (av.seq (rQ (jQ 4 [34] [(1,a_ 2 b2)] (bJ.xB 34 (((nd ns k).id:Int)<(1:Int)) (λ_=>d6) (λxU=>jQ 25 [59] [] (NQ (NX (CT (zR ⟨zc (Value.int .i64) (nw (c:=cE ns) (λh=>by have:=(h.ids k d5).1;omega)).symm,rfl⟩ [1]))))) (λxU=>jQ 5 [39] [(1,a_ 2 b2)] (bJ.xB 39 (((nd ns k).id:Int)>(1099511627776:Int)) (λ_=>d6) (λlY=>jQ 20 [59] [] (NQ (NX (CT (zR ⟨zc (Value.int .i64) (nw (c:=cE ns) (λh=>by have:=(h.ids k d5).2;omega)).symm,rfl⟩ [1]))))) (λlY=>jQ 3 [42] [] (bJ.xB 42 ((((k:Nat):Int):Int)>(0:Int)) (λ_=>d6) (λtO=>jQ 13 [55] [(1,a_ 2 b2),(3,a_ 0 b1),(5,wJ ((k:Int)-1) (↑(k-1))),(6,x_ (k-1) ns.length (aN.hd hG (i:=(k-1)) d5)),(8,r_ (aN.rd hG (i:=(k-1)) d5 (j:=0) rfl))] (bJ.xB 55 (((nd ns k).id:Int)<=((nd ns (k-1)).id:Int)) (λ_=>d6) (λh55=>jQ 4 [59] [] (NQ (NX (CT (zR ⟨zc (Value.int .i64) (nw (c:=cE ns) (λh=>by have:=h.fU (k-1) k d5 d5;omega)).symm,rfl⟩ [1]))))) (λh55=>jQ 1 [56] [(0,A_ 2 b2 10)] (zH [] [0,1,2] (.bool (decide (si (nd ns k)))) (Oc (nd ns k) (L.dA k) (L.eA k) (L.dC k) (L.eC k) (ht k d5)) (jQ 2 [59] [] (NQ (NX (cN (si (nd ns k)) (λxV=>zR ⟨zc (Value.int .i64) (nw (c:=cE ns) (λh=>by exact xV (h.node k d5))).symm,rfl⟩ [1]) (λxV=>KX (av.region (jK 6 [3] [(2,a_ 2 b2),(4,wJ (((dX ns k:Nat):Int)+(((nd ns k).aq.length:Nat):Int)) (↑((dX ns k)+((nd ns k).aq.length))))] (LX (av.region (jK 3 [4] [(1,wJ ((k:Int)+1) (↑(k+1)))] (NL (tJ ((k+1)) [0,1] (⟨d5,hu.step (by rw [TW d5];omega) d5 xV,by show dX ns k+_<=_;omega⟩))))))))))))))))) (λtO=>jQ 14 [55,56] [(13,A_ 2 b2 10)] (zH [] [0,1,2] (.bool (decide (si (nd ns k)))) (Oc (nd ns k) (L.dA k) (L.eA k) (L.dC k) (L.eC k) (ht k d5)) (jQ 2 [59] [] (NQ (NX (cN (si (nd ns k)) (λxV=>zR ⟨zc (Value.int .i64) (nw (c:=cE ns) (λh=>by exact xV (h.node k d5))).symm,rfl⟩ [1]) (λxV=>KX (av.region (jK 6 [3] [(2,a_ 2 b2),(4,wJ (((dX ns k:Nat):Int)+(((nd ns k).aq.length:Nat):Int)) (↑((dX ns k)+((nd ns k).aq.length))))] (LX (av.region (jK 3 [4] [(1,wJ ((k:Int)+1) (↑(k+1)))] (NL (tJ ((k+1)) [0,1] (⟨d5,hu.step (by rw [show k=0 by omega];rw [show k=0 by omega] at xU;show (0:Int)<_;omega) d5 xV,by show dX ns k+_<=_;omega⟩)))))))))))))))))))))))))))))) (λh23=>XX (SQ (jK 2 [66] [] (NN (cP ((((dX ns k:Nat):Int):Int)>(8192:Int)) (λqz=>zR ⟨zc (Value.int .i64) (nw (c:=cE ns) (λh=>by have h1:=h.sum;grind)).symm,rfl⟩ [1]) (λqz=>KX (SR (jK 3 [69] [(1,a_ 0 b1)] (aB.YZ (d:=(some 70)) (t:=41) (e:=3) (z:=.int .i64 0) (bytes:=8) (n:=ns.length) (l:=(.tmp 69)) (c:=(.tmp 69)) (λ_=>d6) (λ_=>d6) (λ_=>d6) Tryz.underlying41 d6 rfl d5 d5 (λb3=>jK 1 [6] [] (NZ (aB.cR 2 (p':=.abs (aI 3 1 (some ⟨b3,0,none⟩) ns.length ns.length (j9 (List.replicate ns.length 0)))) rfl (by rw [j9,List.map_replicate]) (jK 1 [7] [] (NN (av.block (lJ (λ(t,pl)=>(t<=ns.length)/\(pl.length=ns.length)/\(∀a,a<t->pl.getD a 0 = -1)) (λ(t,pl)=>ns.length-t) (λ(t,pl)=>[(1,vP b1),(6,.slice (some ⟨b3,0,none⟩) (ns.length) (ns.length)),(7,vI ↑t)]) (λ(t,pl)=>[.aD b1 [.slice A (ns.length) (c)] 24,.abs (aI 3 1 (some ⟨b3,0,none⟩) ns.length ns.length (j9 pl)),.abs R]) (0,(List.replicate ns.length 0)) [0,2,1] (⟨L4 _,nh,λa ha=>KB ha (N5 a)⟩) ?_)))))))))))))))))))
 rintro⟨t,pl⟩ ⟨ht2,hpl,hpa⟩
 refine SQ (jK 4 [74] [] (NN (cP ((((t:Nat):Int):Int)<(((ns.length:Nat):Int):Int)) (λGQ=>KX (av.seq (av.block (av.region (jK 3 [79] [(2,p_ ⟨[],some t,none,none,some (.pointer (some ⟨b3,t,none⟩))⟩ [(Value.pointer (some ⟨b3,0+t*1,none⟩))=(.pointer (some ⟨b3,t,none⟩)),((t:Nat):Int)=((t:Nat):Int),t<ns.length,(⟨b3,0,none⟩:Addr).spot=none] ⟨nh,rfl,d5,rfl,trivial⟩)] (aB.Em 1 (t) (d:=none) (T:=3) (e:=3) (size:=1) (n:=ns.length) (cap:=ns.length) (g:=b3) (xs:=(j9 pl)) (u:=.int .i64 (-1)) (a:=(.tmp 79)) (y:=(.const (.int .i64 (-1)))) (λ_=>d6) d6 (λ_=>d6) (λ_=>d6) d6 rfl (by rw [j9,aip];omega) (aB.cR 1 rfl (by rw [EG]) (LX (av.region (jK 3 [7] [(1,wJ ((t:Int)+1) (↑(t+1)))] (NL (tJ ((t+1),(pl.set t (-1))) [0,1,2] (⟨d5,by rw [T7];exact hpl,λa ha=>(by grind [Ot])⟩))))))))))))) (λGQ=>XX (SQ (jK 1 [8] [] (NN (av.block ?_))))))))
 have Dn:dM ns:=λa b gF hb=>hu.fU a b gF d5
 have hsum:dX ns ns.length<=8192:=by rw [show ns.length=k by omega];omega
 refine lJ (λ(i,wz)=>(i<=ns.length)/\(∀a,a<i->∀j,j<(nd ns a).aq.length->xD ns a j)/\(((jx ns i).map Prod.fst).Nodup)/\(Oq ns.length wz (jx ns i))) (λ(i,wz)=>ns.length-i) (λ(i,wz)=>[(1,vP b1),(6,.slice (some ⟨b3,0,none⟩) (ns.length) (ns.length)),(8,vI ↑i)]) (λ(i,wz)=>[.aD b1 [.slice A (ns.length) (c)] 24,.abs (aI 3 1 (some ⟨b3,0,none⟩) ns.length ns.length (j9 wz)),.abs R]) (0,pl) [0,1,2] (⟨L4 _,λa ha=>KB ha (N5 a),List.nodup_nil,⟨hpl,λa ha=>hpa a d5⟩⟩) ?_
 rintro⟨i,wz⟩ ⟨hi,Bl,hnd,hpar⟩
 refine SQ (jK 5 [84] [(2,a_ 0 b1)] (NN (cP ((((i:Nat):Int):Int)<(((ns.length:Nat):Int):Int)) (λh84=>?_) (λh84=>?_))))
 ·refine KX (av.seq (av.block (SR (jK 1 [9] [] (NN (av.block (lJ (λ(j,tP)=>(j<=(nd ns i).aq.length)/\(∀t,t<j->xD ns i t)/\(((iG ns i j++jx ns i).map Prod.fst).Nodup)/\(Oq ns.length tP (iG ns i j++jx ns i))) (λ(j,tP)=>(nd ns i).aq.length-j) (λ(j,tP)=>[(1,vP b1),(6,.slice (some ⟨b3,0,none⟩) (ns.length) (ns.length)),(8,vI ↑i),(9,vI ↑j)]) (λ(j,tP)=>[.aD b1 [.slice A (ns.length) (c)] 24,.abs (aI 3 1 (some ⟨b3,0,none⟩) ns.length ns.length (j9 tP)),.abs R]) (0,wz) [0,1,2] (⟨L4 _,λt ht=>KB ht (N5 t),hnd,hpar⟩) ?_)))))))
  rintro⟨j,tP⟩ ⟨hj,hok,Ox,xE⟩
  have hd3:=(hd i d5).2
  have Wj:=xE.len
  refine SQ (jK 9 [95] [(2,a_ 0 b1),(4,x_ i ns.length (aN.hd hG (i:=i) d5)),(6,r_ (aN.rd hG (i:=i) d5 (j:=9) rfl))] (NN (cP ((((j:Nat):Int):Int)<((((nd ns i).aq.length:Nat):Int):Int)) (λh95=>KX (av.seq (av.block (SR (jN 11 [10] (λb4=>[(1,a_ 0 b1),(3,x_ i ns.length (aN.hd hG (i:=i) d5)),(5,r_ (aN.rd hG (i:=i) d5 (j:=9) rfl)),(7,x_ j ((nd ns i).aq.length) (cV.hd (hG.aq i d5) (i:=j) d5)),(8,r2 (cV.rd (hG.aq i d5) (i:=j) d5 (j:=0) rfl) (cV.rd (hG.aq i d5) (i:=j) d5 (j:=1) rfl)),(10,A_ 3 b4 2)]) (λ_=>[]) (λb4=>.aD b4 [.string (en (nd ns i).aq j).name,vI ((en (nd ns i).aq j).id)] 126) (λb4=>NS (jK 3 [107,109] [(0,a_ 0 b1),(2,a_ 3 b4)] (gE [] (yV A c ns L hG Dn hl (en (nd ns i).aq j).id) (jK 1 [11] [] (NN (av.seq (av.seq (rQ (jQ 3 [113] [] (bJ.xB 113 ((gU ns (en (nd ns i).aq j).id:Int)<(0:Int)) (λ_=>d6) (λKC=>jQ 25 [138] [] (NQ (NX (CT (zR ⟨zc (Value.int .i64) (nw (c:=cE ns) (λh=>by have h1:=(h.aq i d5 j d5).at_;change 0<=gU ns (en (nd ns i).aq j).id at h1;omega)).symm,rfl⟩ [2]))))) (λKC=>?_)))))))))))))))) (λh95=>XX (av.region (jK 3 [8] [(1,wJ ((i:Int)+1) (↑(i+1)))] (NL (tJ ((i+1),tP) [0,1,2] (⟨d5,λa ha=>gn,(by have:=Ox;rwa [show j=(nd ns i).aq.length by omega] at this),(by have:=xE;rwa [show j=(nd ns i).aq.length by omega] at this)⟩)))))))))
  have htl:=mR (Int.not_lt.1 KC)
  refine jQ 2 [115] [(1,a_ 3 b4)] (zH [] [0,1,2,3] (.bool (decide (bW (en (nd ns i).aq j).name))) (Dl (en (nd ns i).aq j).name (hnm i d5 j d5)) (jQ 3 [119] [] (bJ.TJ 119 (bW (en (nd ns i).aq j).name) (λ_=>d6) (λKD=>jQ 19 [138] [] (NQ (NX (CT (zR ⟨zc (Value.int .i64) (nw (c:=cE ns) (λh=>by exact KD (h.aq i d5 j d5).good)).symm,rfl⟩ [2]))))) (λKD=>?_))))
  refine jQ 3 [122] [] (bJ.xB 122 ((((j:Nat):Int):Int)>(0:Int)) (λ_=>d6) (λTY=>jQ 16 [138] [(1,a_ 3 b4),(3,a_ 0 b1),(5,x_ i ns.length (aN.hd hG (i:=i) d5)),(7,r_ (aN.rd hG (i:=i) d5 (j:=9) rfl)),(9,wJ ((j:Int)-1) (↑(j-1))),(10,x_ (j-1) ((nd ns i).aq.length) (cV.hd (hG.aq i d5) (i:=(j-1)) d5)),(12,r_ (cV.rd (hG.aq i d5) (i:=(j-1)) d5 (j:=0) rfl)),(13,w_ (.bool (decide (ja ((en (nd ns i).aq j).name) ((en (nd ns i).aq (j-1)).name)))) (Oi _ _))] (NQ (NX (cP (ja ((en (nd ns i).aq j).name) ((en (nd ns i).aq (j-1)).name)) (λT9=>zR ⟨zc (Value.int .i64) (nw (c:=cE ns) (λh=>by have h1:=(h.aq i d5 j d5).ord;rw [Ow d5] at h1;exact h1 T9)).symm,rfl⟩ [2]) (λT9=>KX (SR (jK 7 [145] [(1,a_ 0 b1),(3,p_ ⟨[],some (bZ ns (en (nd ns i).aq j).id),none,some ⟨(bG A),bE A,none⟩,none⟩ [gU ns (en (nd ns i).aq j).id=(((bZ ns (en (nd ns i).aq j).id):Nat):Int),(bZ ns (en (nd ns i).aq j).id)<ns.length,(⟨(bG A),bE A,none⟩:Addr).spot=none,(A:Option Addr)=some ⟨(bG A),bE A,none⟩] ⟨htl.2.2,d5,rfl,aN.hd hG (i:=(bZ ns (en (nd ns i).aq j).id)) d5,trivial⟩),(5,r_ (aN.rd hG (i:=(bZ ns (en (nd ns i).aq j).id)) d5 (j:=1) rfl))] (NN (cP (((nd ns (bZ ns (en (nd ns i).aq j).id)).kind:Int)=(2:Int)) (λuw=>SQ (jK 5 [150] [(2,p_ ⟨[],some (bZ ns (en (nd ns i).aq j).id),none,none,some (.pointer (some ⟨b3,(bZ ns (en (nd ns i).aq j).id),none⟩))⟩ [(Value.pointer (some ⟨b3,0+(bZ ns (en (nd ns i).aq j).id)*1,none⟩))=(.pointer (some ⟨b3,(bZ ns (en (nd ns i).aq j).id),none⟩)),gU ns (en (nd ns i).aq j).id=(((bZ ns (en (nd ns i).aq j).id):Nat):Int),(bZ ns (en (nd ns i).aq j).id)<ns.length,(⟨b3,0,none⟩:Addr).spot=none] ⟨nh,htl.2.2,d5,rfl,trivial⟩),(3,p_ ⟨[.view 1 (.int .i64 ((tP.getD (bZ ns (en (nd ns i).aq j).id) 0)))],none,none,none,none⟩ [(∀F w,(aI 3 1 (some ⟨b3,0,none⟩) ns.length ns.length (j9 tP)).h F w->w.cell? ⟨b3,(bZ ns (en (nd ns i).aq j).id),none⟩=some (vI ((tP.getD (bZ ns (en (nd ns i).aq j).id) 0))))] ⟨aI.cell (Bn d5),trivial⟩)] (NN (cP (((tP.getD (bZ ns (en (nd ns i).aq j).id) 0):Int)>=(0:Int)) (λZq=>zR ⟨zc (Value.int .i64) (nw (c:=cE ns) (λh=>by have h1:Dp (iG ns i j++jx ns i) (bZ ns (en (nd ns i).aq j).id)<0:=Bo.2 (Co (h.row d5) d5 uw);rw [←xE.at_ (bZ ns (en (nd ns i).aq j).id) d5] at h1;omega)).symm,rfl⟩ [2]) (λZq=>KX (av.region (jK 4 [153,154] [(3,p_ ⟨[],some (bZ ns (en (nd ns i).aq j).id),none,none,some (.pointer (some ⟨b3,(bZ ns (en (nd ns i).aq j).id),none⟩))⟩ [(Value.pointer (some ⟨b3,0+(bZ ns (en (nd ns i).aq j).id)*1,none⟩))=(.pointer (some ⟨b3,(bZ ns (en (nd ns i).aq j).id),none⟩)),gU ns (en (nd ns i).aq j).id=(((bZ ns (en (nd ns i).aq j).id):Nat):Int),(bZ ns (en (nd ns i).aq j).id)<ns.length,(⟨b3,0,none⟩:Addr).spot=none] ⟨nh,htl.2.2,d5,rfl,trivial⟩)] (aB.Em 1 ((bZ ns (en (nd ns i).aq j).id)) (d:=none) (T:=3) (e:=3) (size:=1) (n:=ns.length) (cap:=ns.length) (g:=b3) (xs:=(j9 tP)) (u:=.int .i64 ↑i) (a:=(.tmp 154)) (y:=(.tmp 153)) (λ_=>d6) d6 (λ_=>d6) (λ_=>d6) d6 rfl (by rw [j9,aip];omega) (aB.cR 1 rfl (by rw [EG]) (LX (av.region (jK 3 [9] [(1,wJ ((j:Int)+1) (↑(j+1)))] (NL (tJ ((j+1),(tP.set (bZ ns (en (nd ns i).aq j).id) ((i:Nat):Int))) [0,1,2] (⟨d5,λt ht=>(by rcases Pd.1 ht with h|h;exact hok t h;subst h;exact Dq (Int.not_lt.1 KC) KD (λ_=>T9)),(by rw [qu uw,aiE,aiB];exact ai6.2 ⟨show bZ ns (en (nd ns i).aq j).id∉_ from Bo.1 (by rw [←xE.at_ (bZ ns (en (nd ns i).aq j).id) d5];omega),Ox⟩),(by rw [qu uw];exact xE.put d5)⟩))))))))))))))) (λuw=>KX (av.region (jK 3 [9] [(1,wJ ((j:Int)+1) (↑(j+1)))] (NL (tJ ((j+1),tP) [0,1,2] (⟨d5,λt ht=>(by rcases Pd.1 ht with h|h;exact hok t h;subst h;exact Dq (Int.not_lt.1 KC) KD (λ_=>T9)),(by rw [q8 uw];exact Ox),(by rw [q8 uw];exact xE)⟩))))))))))))))) (λTY=>?_))
  exact jQ 16 [138] [] (NQ (NX (CF (KX (SR (jK 7 [145] [(1,a_ 0 b1),(3,p_ ⟨[],some (bZ ns (en (nd ns i).aq j).id),none,some ⟨(bG A),bE A,none⟩,none⟩ [gU ns (en (nd ns i).aq j).id=(((bZ ns (en (nd ns i).aq j).id):Nat):Int),(bZ ns (en (nd ns i).aq j).id)<ns.length,(⟨(bG A),bE A,none⟩:Addr).spot=none,(A:Option Addr)=some ⟨(bG A),bE A,none⟩] ⟨htl.2.2,d5,rfl,aN.hd hG (i:=(bZ ns (en (nd ns i).aq j).id)) d5,trivial⟩),(5,r_ (aN.rd hG (i:=(bZ ns (en (nd ns i).aq j).id)) d5 (j:=1) rfl))] (NN (cP (((nd ns (bZ ns (en (nd ns i).aq j).id)).kind:Int)=(2:Int)) (λuw=>SQ (jK 5 [150] [(2,p_ ⟨[],some (bZ ns (en (nd ns i).aq j).id),none,none,some (.pointer (some ⟨b3,(bZ ns (en (nd ns i).aq j).id),none⟩))⟩ [(Value.pointer (some ⟨b3,0+(bZ ns (en (nd ns i).aq j).id)*1,none⟩))=(.pointer (some ⟨b3,(bZ ns (en (nd ns i).aq j).id),none⟩)),gU ns (en (nd ns i).aq j).id=(((bZ ns (en (nd ns i).aq j).id):Nat):Int),(bZ ns (en (nd ns i).aq j).id)<ns.length,(⟨b3,0,none⟩:Addr).spot=none] ⟨nh,htl.2.2,d5,rfl,trivial⟩),(3,p_ ⟨[.view 1 (.int .i64 ((tP.getD (bZ ns (en (nd ns i).aq j).id) 0)))],none,none,none,none⟩ [(∀F w,(aI 3 1 (some ⟨b3,0,none⟩) ns.length ns.length (j9 tP)).h F w->w.cell? ⟨b3,(bZ ns (en (nd ns i).aq j).id),none⟩=some (vI ((tP.getD (bZ ns (en (nd ns i).aq j).id) 0))))] ⟨aI.cell (Bn d5),trivial⟩)] (NN (cP (((tP.getD (bZ ns (en (nd ns i).aq j).id) 0):Int)>=(0:Int)) (λZq=>zR ⟨zc (Value.int .i64) (nw (c:=cE ns) (λh=>by have h1:Dp (iG ns i j++jx ns i) (bZ ns (en (nd ns i).aq j).id)<0:=Bo.2 (Co (h.row d5) d5 uw);rw [←xE.at_ (bZ ns (en (nd ns i).aq j).id) d5] at h1;omega)).symm,rfl⟩ [2]) (λZq=>KX (av.region (jK 4 [153,154] [(3,p_ ⟨[],some (bZ ns (en (nd ns i).aq j).id),none,none,some (.pointer (some ⟨b3,(bZ ns (en (nd ns i).aq j).id),none⟩))⟩ [(Value.pointer (some ⟨b3,0+(bZ ns (en (nd ns i).aq j).id)*1,none⟩))=(.pointer (some ⟨b3,(bZ ns (en (nd ns i).aq j).id),none⟩)),gU ns (en (nd ns i).aq j).id=(((bZ ns (en (nd ns i).aq j).id):Nat):Int),(bZ ns (en (nd ns i).aq j).id)<ns.length,(⟨b3,0,none⟩:Addr).spot=none] ⟨nh,htl.2.2,d5,rfl,trivial⟩)] (aB.Em 1 ((bZ ns (en (nd ns i).aq j).id)) (d:=none) (T:=3) (e:=3) (size:=1) (n:=ns.length) (cap:=ns.length) (g:=b3) (xs:=(j9 tP)) (u:=.int .i64 ↑i) (a:=(.tmp 154)) (y:=(.tmp 153)) (λ_=>d6) d6 (λ_=>d6) (λ_=>d6) d6 rfl (by rw [j9,aip];omega) (aB.cR 1 rfl (by rw [EG]) (LX (av.region (jK 3 [9] [(1,wJ ((j:Int)+1) (↑(j+1)))] (NL (tJ ((j+1),(tP.set (bZ ns (en (nd ns i).aq j).id) ((i:Nat):Int))) [0,1,2] (⟨d5,λt ht=>(by rcases Pd.1 ht with h|h;exact hok t h;subst h;exact Dq (Int.not_lt.1 KC) KD (λh=>KB h (by omega))),(by rw [qu uw,aiE,aiB];exact ai6.2 ⟨show bZ ns (en (nd ns i).aq j).id∉_ from Bo.1 (by rw [←xE.at_ (bZ ns (en (nd ns i).aq j).id) d5];omega),Ox⟩),(by rw [qu uw];exact xE.put d5)⟩))))))))))))))) (λuw=>KX (av.region (jK 3 [9] [(1,wJ ((j:Int)+1) (↑(j+1)))] (NL (tJ ((j+1),tP) [0,1,2] (⟨d5,λt ht=>(by rcases Pd.1 ht with h|h;exact hok t h;subst h;exact Dq (Int.not_lt.1 KC) KD (λh=>KB h (by omega))),(by rw [q8 uw];exact Ox),(by rw [q8 uw];exact xE)⟩))))))))))))))
 refine XX (SQ (jK 1 [12] [] (NN (av.block ?_))))
 have abO:Oq ns.length wz (jx ns ns.length):=gn
 have hed:=zT (ns:=ns) (N6 _) (λa ha=>Bl a d5)
 refine lJ (λ(a:Nat)=>(a<=ns.length)/\(∀b,b<a->Ends ((jx ns ns.length).map (lC ns)) (nd ns b).id)) (λ(a:Nat)=>ns.length-a) (λ(a:Nat)=>[(6,.slice (some ⟨b3,0,none⟩) (ns.length) (ns.length)),(12,vI ↑a)]) (λ(a:Nat)=>[.abs (aI 3 1 (some ⟨b3,0,none⟩) ns.length ns.length (j9 wz)),.abs R]) 0 [1,2] (⟨L4 _,λb hb=>KB hb (N5 b)⟩) ?_
 rintro a ⟨ha,hend⟩
 have Wj:=hpar.len
 refine SQ (jK 4 [158] [] (NN (cP ((((a:Nat):Int):Int)<(((ns.length:Nat):Int):Int)) (λagN=>KX (av.seq (av.block (SR (jK 5 [13] [(2,p_ ⟨[],some a,none,none,some (.pointer (some ⟨b3,a,none⟩))⟩ [(Value.pointer (some ⟨b3,0+a*1,none⟩))=(.pointer (some ⟨b3,a,none⟩)),((a:Nat):Int)=((a:Nat):Int),a<ns.length,(⟨b3,0,none⟩:Addr).spot=none] ⟨nh,rfl,d5,rfl,trivial⟩),(3,p_ ⟨[.view 0 (.int .i64 ((wz.getD a 0)))],none,none,none,none⟩ [(∀F w,(aI 3 1 (some ⟨b3,0,none⟩) ns.length ns.length (j9 wz)).h F w->w.cell? ⟨b3,a,none⟩=some (vI ((wz.getD a 0))))] ⟨aI.cell (Bn d5),trivial⟩)] (NS (jK 1 [14] [] (NN (av.block (lJ (λ(at_,step,w)=>((at_<0/\Ends ((jx ns ns.length).map (lC ns)) (nd ns a).id)\/∃q:Nat,at_=(q:Int)/\q<ns.length/\Way ((jx ns ns.length).map (lC ns)) (nd ns a).id w (nd ns q).id/\w.length=step+1)) (λ(at_,step,w)=>ns.length+2-step) (λ(at_,step,w)=>[(6,.slice (some ⟨b3,0,none⟩) (ns.length) (ns.length)),(12,vI ↑a),(13,vI (at_)),(14,vI ↑step)]) (λ(at_,step,w)=>[.abs (aI 3 1 (some ⟨b3,0,none⟩) ns.length ns.length (j9 wz)),.abs R]) ((wz.getD a 0),0,[(nd ns a).id]) [0,1] (Ov Dn hed abO d5 .nil rfl) ?_)))))))))) (λagN=>XX (zR ⟨zc (Value.int .i64) (t8 (c:=cE ns) ⟨d5,λa ha=>hu.node a d5,λa ha=>hu.ids a d5,Dn,d5,λa ha=>Bl a d5,gn,Wi (λp hp=>(hed p hp).1) (λb hb=>hend b d5)⟩).symm,rfl⟩ [1])))))
 rintro⟨at_,step,w⟩ hst
 refine SQ (jK 2 [166] [] (NN (cP ((at_:Int)>=(0:Int)) (λagO=>?_) (λagO=>XX (av.region (jK 3 [12] [(1,wJ ((a:Int)+1) (↑(a+1)))] (NL (tJ ((a+1)) [0,1] (⟨d5,λb hb=>gn⟩)))))))))
 obtain⟨b,hb0,hb1,hb2,hb3⟩:=hst.resolve_left (λh=>d5)
 exact KX (av.seq (av.block (SQ (jK 4 [172] [] (sP 172 ((at_:Int)=(((a:Nat):Int):Int)) (λagP=>jK 5 [177] [] (NT (zR ⟨zc (Value.int .i64) (nw (c:=cE ns) (λh=>by rw [show b=a by omega] at hb2;exact hb2.back d5 (h.ends _))).symm,rfl⟩ [1]))) (λagP=>jK 5 [177] [] (NN (cP ((((step:Nat):Int):Int)>(((ns.length:Nat):Int):Int)) (λagQ=>zR ⟨zc (Value.int .i64) (nw (c:=cE ns) (λh=>by exact hb2.never (by have:=h.few;omega) (h.ends _))).symm,rfl⟩ [1]) (λagQ=>KX (av.region (jK 5 [13] [(2,p_ ⟨[],some b,none,none,some (.pointer (some ⟨b3,b,none⟩))⟩ [(Value.pointer (some ⟨b3,0+b*1,none⟩))=(.pointer (some ⟨b3,b,none⟩)),at_=((b:Nat):Int),b<ns.length,(⟨b3,0,none⟩:Addr).spot=none] ⟨nh,hb0,d5,rfl,trivial⟩),(3,p_ ⟨[.view 0 (.int .i64 ((wz.getD b 0)))],none,none,none,none⟩ [(∀F w,(aI 3 1 (some ⟨b3,0,none⟩) ns.length ns.length (j9 wz)).h F w->w.cell? ⟨b3,b,none⟩=some (vI ((wz.getD b 0))))] ⟨aI.cell (Bn d5),trivial⟩)] (LX (av.region (jK 3 [14] [(1,wJ ((step:Int)+1) (↑(step+1)))] (NL (tJ ((wz.getD b 0),(step+1),(w++[(nd ns b).id])) [0,1] (Ov Dn hed abO hb1 hb2 hb3)))))))))))))))))
end
section
open Go.RowKit
theorem B0.refl (W:World):(B0 W).le (B0 W):=⟨λ_ h=>h,rfl,rfl,rfl,N6 _,λ_ hk=>⟨hk,rfl⟩⟩
theorem aU.val {P:Program} {β:Bs} {f:FuncId} {args:Array Value} {pre:List HP} {x y:Value} {l0:List HP} (h:aU P β f args pre (λv l=>v=x/\l=l0)) (e:x=y):aU P β f args pre (λv l=>v=y/\l=l0):=h.mono λ_ _ h=>⟨h.1.trans e,h.2⟩
section gb
variable {ns:List aO} {b:Nat}
variable (h:kA ns 1048576)
include h
end gb
structure ahE (ns:List aO):Prop where
 hl:ns.length<=1048576
 hd:∀i,i<ns.length->(nd ns i).data.length<=140737488355328/\(nd ns i).aq.length<=1048576
 hwf:∀i,i<ns.length->∀j,j<(nd ns i).aq.length->-9223372036854775808<=(bR ns i j).id/\(bR ns i j).id<=9223372036854775807
 hnm:∀i,i<ns.length->∀j,j<(nd ns i).aq.length->(bR ns i j).name.size<=1048576
 ids:∀i,i<ns.length->uU (nd ns i).id
def L0:fq:=⟨λ_=>none,λ_=>none,λ_=>0,λ_=>0⟩
theorem cq.nil {β:Bs} {A:Option Addr}:cq β A []:=λj v hj=>by simp at hj
structure Th where
 k:Nat
 kind:Int
deriving Inhabited,DecidableEq
abbrev jj (α:Type):=List (ByteArray×α)
structure bV where
 id:Int
 mode:Int
 cM:Int
 cO:Int
 bH:Int
 bh:Int
 aT:Int
 aQ:Int
 aJ:Bool
 kind:Int
 data:List UInt8
 target:ByteArray
 aq:jj Th
 up:Option Nat
deriving Inhabited
abbrev eu:=Nat->bV
def ah (O:eu) (k:Nat):bV:=O k
def bD (O:eu) (k:Nat) (f:bV->bV):eu:=λi=>if i=k then f (O i) else O i
section pZ
variable {O:eu} {k j:Nat} {f g:bV->bV}
theorem iF:ah (bD O k f) k=f (ah O k):=t8 rfl
theorem jk (h:j≠k):ah (bD O k f) j=ah O j:=nw h
theorem mq:ah (bD O k f) j=if j=k then f (ah O j) else ah O j:=rfl
theorem acR (h:f (ah O k)=ah O k):bD O k f=O:=by
 grind [ah,bD]
theorem EH:bD (bD O k f) k g=bD O k (λo=>g (f o)):=by
 grind [bD]
end pZ
section aq
variable {α:Type} {n p:ByteArray} {t:α} {es:jj α}
def bF (n:ByteArray) (es:jj α):Option α:=(es.find? (λe=>decide (e.1=n))).map (·.2)
def kT (n:ByteArray) (t:α):jj α->jj α
 |[]=>[(n,t)]
 |e::r=>if ¬ja e.1 n then (n,t)::e::r else e::kT n t r
def kU (n:ByteArray) (es:jj α):jj α:=es.filter (λe=>decide (e.1≠n))
theorem qc {e:ByteArray×α}:bF n (e::es)=if e.1=n then some e.2 else bF n es:=by
 grind [bF]
theorem Dr:bF n es=none↔∀e∈es,e.1≠n:=by
 unfold bF
 rw [Option.map_eq_none_iff,List.find?_eq_none]
 simp
theorem rf {es:jj α} (h:bF n es=some t):(n,t)∈es:=by
 unfold bF at h
 obtain⟨e,h1,h2⟩:=Option.map_eq_some_iff.1 h
 grind
theorem Oy:∀{es:jj α},(kT n t es).length=es.length+1
 |[]=>rfl
 |e::r=>by
   unfold kT
   split
   ·rfl
   rw [aix,Oy];rfl
theorem EI (hn:bF n es=none):bF p (kT n t es)=if p=n then some t else bF p es:=by
 induction es with
 |nil=>
   grind [kT,qc]
 |cons e r ih=>
   grind [qc,kT]
theorem xW:bF p (kU n es)=if p=n then none else bF p es:=by
 grind [kU,bF,qc]
def pX (es:jj α):Prop:=es.Pairwise (λa b=>a.1≠b.1)
theorem Zr {es:jj α} (hd:pX es) (h:bF n es=some t):(kU n es).length+1=es.length:=by
 induction es with
 |nil=>cases h
 |cons e r ih=>
   obtain⟨h1,h2⟩:=ail.1 hd
   rw [qc] at h
   unfold kU at ih ⊢
   rw [List.filter_cons]
   by_cases he:e.1=n
   ·rw [nw (by simp [he])]
    have:r.filter (λe=>decide (e.1≠n))=r:=List.filter_eq_self.2 (λx hx=>gn)
    rw [this];rfl
   grind [pX,bF,kU]
theorem Ie {e:ByteArray×α}:∀{es:jj α},e∈kT n t es↔e=(n,t)\/e∈es
 |[]=>by simp [kT]
 |x::r=>by
   unfold kT
   split
   ·simp
   rw [T8,Ie,T8]
   constructor
   ·rintro (h|h|h)
    ·exact .inr (.inl h)
    ·exact .inl h
    exact .inr (.inr h)
   rintro (h|h|h)
   ·exact .inr (.inl h)
   ·exact .inl h
   exact .inr (.inr h)
end aq
def bp (R:Nat->eG):eG where
 h F w:=∃φ:Nat->Fp,(∀i,(R i).h (φ i) w)/\(∀i j,i≠j->Apart (φ i) (φ j))/\∀k,F k↔∃i,φ i k
 lt:=λ⟨_,h1,_,h3⟩ k hk=>let ⟨i,hk⟩:=(h3 k).1 hk;(R i).lt (h1 i) k hk
 st:=λ⟨φ,h1,h2,h3⟩ _ _ hk hn=>⟨φ,λi=>(R i).st (h1 i) hk (λk hk=>hn k ((h3 k).2 ⟨i,hk⟩)),h2,h3⟩
section VY
variable {β:Bs} {l l':List HP} {w:World} {i n k:Nat} {R R':Nat->eG} {a:eG}
theorem bp.at (k:Nat) {F:Fp} {w:World} (h:(bp R).h F w):∃G,(R k).h G w:=by
 obtain⟨φ,h1,_⟩:=h
 exact⟨φ k,h1 k⟩
theorem aP.Nt (h:aP β l w) (R:Nat->eG) (hR:∀k,R k=eG.none):aP β (l++[.abs (bp R)]) w:=aP.new h (p:=.abs (bp R)) (F:=λ_=>False) ⟨λ_ _=>False,λi=>by rw [hR];exact λ_ h=>h,λ_ _ _ _ h=>h.elim,λ_=>⟨λh=>h.elim,λ⟨_,h⟩=>h⟩⟩ (cL.refl _ _) (λ_ h=>h.elim)
theorem aP.Jj (h:aP β l w) (hp:l[i]?=some (.abs (bp R))) (k:Nat):aP β (l.set i (.abs (bp (pU R k eG.none)))++[.abs (R k)]) w:=by
 refine h.abJ hp ?_
 rintro F ⟨φ,h1,h2,h3⟩
 refine⟨λx=>∃i,i≠k/\φ i x,φ k,⟨λi=>if i=k then λ_=>False else φ i,λi=>?_,λi j cF x hx hy=>?_,λx=>⟨λ⟨i,cF,hx⟩=>⟨i,by simpa [cF] using hx⟩,λ⟨i,hx⟩=>?_⟩⟩,h1 k,λx ⟨i,cF,hx⟩ hy=>h2 i k cF x hx hy,λx=>⟨λhx=>?_,λhx=>?_⟩⟩
 ·unfold pU
  by_cases e:i=k
  ·simp only [e,if_true];exact λ_ h=>h
  simp only [e,if_false];exact h1 i
 ·by_cases e1:i=k
  ·simp [e1] at hx
  by_cases e2:j=k
  ·simp [e2] at hy
  exact h2 i j cF x (by simpa [e1] using hx) (by simpa [e2] using hy)
 ·by_cases e1:i=k
  ·simp [e1] at hx
  exact⟨i,e1,by simpa [e1] using hx⟩
 all_goals grind
theorem aP.yX {j:Nat} {ax:List Nat} {q:HP} (h:aP β l w) (hp:l[i]?=some (.abs (bp R))) (hq:l[j]?=some q) (hqa:∀F w,q.h F w->a.h F w) (hn:bU (i::j::ax)=true) (hl:cT l ax=some l') (k:Nat) (hR:∀x,x≠k->R' x=R x) (ha:R' k=a):aP β (.abs (bp R')::l') w:=by
 refine h.abK hp hq hn hl ?_
 rintro F1 F2 ⟨φ,h1,h2,h3⟩ hF hap
 refine⟨λx=>(∃i,i≠k/\φ i x)\/F2 x,⟨λi=>if i=k then F2 else φ i,λi=>?_,λi j cF x hx hy=>?_,λx=>⟨λhx=>?_,λ⟨i,hx⟩=>?_⟩⟩,λx hx=>hx.imp (λ⟨i,_,hx⟩=>(h3 x).2 ⟨i,hx⟩) id⟩
 ·grind
 ·by_cases e1:i=k
  ·by_cases e2:j=k
   ·exact cF (e1.trans e2.symm)
   simp only [e1,if_true] at hx
   simp only [e2,if_false] at hy
   exact hap x ((h3 x).2 ⟨j,hy⟩) hx
  simp only [e1,if_false] at hx
  by_cases e2:j=k
  ·simp only [e2,if_true] at hy
   exact hap x ((h3 x).2 ⟨i,hx⟩) hy
  simp only [e2,if_false] at hy
  exact h2 i j cF x hx hy
 ·rcases hx with ⟨i,cF,hx⟩|hx
  ·exact⟨i,by simpa [cF] using hx⟩
  exact⟨k,by simpa using hx⟩
 grind
end VY
end
section
open Go.RowKit Go.Maps
theorem Ig:Keyed Tryz.prog 9:=string_keyed Tryz.underlying9
theorem KE {p:ByteArray} (h:p.size<=9223372036854775807):keyOf Tryz.prog 9 (.string p)=some (.string p.data.toList):=WideMaps.keyOf_string_mk Tryz.underlying9 (by unfold maxLen;omega)
def mS (g:ByteArray->Option Value):Lit->Option Value
 |.string l=>g ⟨l.toArray⟩
 |_=>none
theorem af3 (g:ByteArray->Option Value) (p:ByteArray):mS g (.string p.data.toList)=g p:=by
 show g ⟨p.data.toList.toArray⟩=g p
 rw [Array.toArray_toList]
theorem Wk (g:ByteArray->Option Value) (p:ByteArray) (v:Option Value):pZ (mS g) (.string p.data.toList) v=mS (λq=>if q=p then v else g q):=by
 funext x
 unfold pZ mS
 cases x with
 |string l=>
   by_cases e:l=p.data.toList
   ·subst e
    have e2:(⟨p.data.toList.toArray⟩:ByteArray)=p:=by rw [Array.toArray_toList]
    simp [Lit.sameKey]
   have e2:¬(⟨l.toArray⟩:ByteArray)=p:=λh=>e (by rw [←h])
   simp [Lit.sameKey,e,e2]
 |_=>rfl
theorem acS:mS (λ_=>none)=λ_=>none:=by
 funext x
 unfold mS
 split<;>rfl
def KF (b:Nat) (cs:List Value) (T:TypeId):eG where
 h F w:=(HP.aD b cs T).h F w
 lt:=λh=>HP.lt h
 st:=λh _ _ hk hd=>HP.st h hk hd
structure HL where
 b:Nat->Nat
 m:Nat->Nat
 dA:Nat->Option Addr
 dC:Nat->Nat
def HL.data (L:HL) (k:Nat) (A:Option Addr) (c:Nat):HL:=⟨L.b,L.m,λi=>if i=k then A else L.dA i,λi=>if i=k then c else L.dC i⟩
def HL.put (L:HL) (k b m:Nat) (A:Option Addr) (c:Nat):HL:=⟨λi=>if i=k then b else L.b i,λi=>if i=k then m else L.m i,λi=>if i=k then A else L.dA i,λi=>if i=k then c else L.dC i⟩
def thT (kind:Int):TypeId:=if kind=1 then 184 else if kind=3 then 187 else 190
def yG (kind:Int):TypeId:=if kind=1 then 186 else if kind=3 then 189 else 197
def jl (L:HL) (t:Th):Value:=.iface (thT t.kind) (.pointer (some ⟨L.b t.k,0,none⟩))
def L8 (L:HL):Option Nat->Value
 |none=>.pointer none
 |some d=>.pointer (some ⟨L.b d,0,none⟩)
def FX (o:bV):List Value:=[.int .i64 o.id,.int .i64 o.mode,.int .i64 o.cM,.int .i64 o.cO,.int .i64 o.bH,.int .i64 o.bh,.int .i64 o.aT,.int .i64 o.aQ,.bool o.aJ]
def FY (L:HL) (k:Nat) (o:bV):List Value:=if o.kind=1 then [.slice (L.dA k) o.data.length (L.dC k)] else if o.kind=3 then [.string o.target] else [.map (some (L.m k)),L8 L o.up]
def l5 (L:HL) (k:Nat) (o:bV):List Value:=FX o++FY L k o
def nI (L:HL) (es:jj Th):Lit->Option Value:=mS (λp=>(bF p es).map (jl L))
def fV (O:eu) (L:HL) (k:Nat):eG:=if (ah O k).kind=0 then eG.none else KF (L.b k) (l5 L k (ah O k)) (yG (ah O k).kind)
def eY (O:eu) (L:HL) (k:Nat):eG:=if (ah O k).kind=1 then aI 5 1 (L.dA k) (ah O k).data.length (L.dC k) (d9 (ah O k).data) else eG.none
def iE (O:eu) (L:HL) (k:Nat):eG:=if (ah O k).kind=2 then bM Tryz.prog 9 (L.m k) (nI L (ah O k).aq) (ah O k).aq.length else eG.none
section sat
variable {β:Bs} {l:List HP} {w:World} {i b:Nat} {cs:List Value} {T:TypeId} {p p':HP}
theorem aP.same (h:aP β l w) (hp:l[i]?=some p) (e:∀F w,p.h F w->p'.h F w):aP β (l.set i p') w:=by
 obtain⟨ho,φ,h1,h2,h3⟩:=h
 have hl:(l.set i p').length=l.length:=T7 ..
 refine⟨ho,φ,λj q hq=>?_,λj hj=>h2 j d5,λj k hj hk=>h3 j k d5 d5⟩
 grind
end sat
section cells
variable {O:eu} {L:HL} {k j:Nat} {v:Value}
theorem rL (h:(ah O k).kind≠0):fV O L k=KF (L.b k) (l5 L k (ah O k)) (yG (ah O k).kind):=nw h
theorem lf (hk:(ah O k).kind≠0) (hv:(l5 L k (ah O k))[j]?=some v):∀F w,(bp (fV O L)).h F w->w.cell? ⟨L.b k,j,none⟩=some v:=by
 intro F w h
 obtain⟨G,g⟩:=bp.at k h
 rw [rL hk] at g
 obtain⟨g,_⟩:=g
 exact (lu g rfl rfl hv).1
theorem zU (h:(ah O k).kind=1):eY O L k=aI 5 1 (L.dA k) (ah O k).data.length (L.dC k) (d9 (ah O k).data):=t8 h
theorem uX (h:(ah O k).kind=2):iE O L k=bM Tryz.prog 9 (L.m k) (nI L (ah O k).aq) (ah O k).aq.length:=t8 h
theorem y9 (es:jj Th) (p:ByteArray):nI L es (.string p.data.toList)=(bF p es).map (jl L):=af3 _ _
theorem Zs {es:jj Th} {p:ByteArray} {t:Th} (hn:bF p es=none):pZ (nI L es) (.string p.data.toList) (some (jl L t))=nI L (kT p t es):=by
 grind [nI,Wk,EI]
theorem Zt {es:jj Th} {p:ByteArray}:pZ (nI L es) (.string p.data.toList) none=nI L (kU p es):=by
 grind [nI,Wk,xW]
theorem Zu:nI L []=λ_=>none:=acS
end cells
section VY
variable {O:eu} {L:HL} {k:Nat} {f:bV->bV}
theorem FZ:fV (bD O k f) L k=if (f (ah O k)).kind=0 then eG.none else KF (L.b k) (l5 L k (f (ah O k))) (yG (f (ah O k)).kind):=by
 unfold fV;rw [iF]
theorem Jk {x:Nat} (h:x≠k):fV (bD O k f) L x=fV O L x:=by unfold fV;rw [jk h]
theorem F5 (h:(f (ah O k)).data=(ah O k).data) (h2:(f (ah O k)).kind=(ah O k).kind):eY (bD O k f) L=eY O L:=by
 grind [eY,iF,jk]
theorem F6 (h:(f (ah O k)).aq=(ah O k).aq) (h2:(f (ah O k)).kind=(ah O k).kind):iE (bD O k f) L=iE O L:=by
 grind [iE,iF,jk]
theorem Jl {x:Nat} (h:x≠k):iE (bD O k f) L x=iE O L x:=by unfold iE;rw [jk h]
theorem Jm {x:Nat} (h:x≠k):eY (bD O k f) L x=eY O L x:=by unfold eY;rw [jk h]
end VY
section kinds
variable {O:eu} {L:HL} {k j:Nat} {f:bV->bV} {o:bV}
theorem ux (hf:∀o,(f o).kind=o.kind):(ah (bD O j f) k).kind=(ah O k).kind:=by
 rw [mq];split
 ·exact hf _
 rfl
theorem eU {α:Type} {g:bV->α} (hf:∀o,g (f o)=g o):g (ah (bD O j f) k)=g (ah O k):=by
 rw [mq];split
 ·exact hf _
 rfl
theorem xX (h:o.kind=1):l5 L k o=[.int .i64 o.id,.int .i64 o.mode,.int .i64 o.cM,.int .i64 o.cO,.int .i64 o.bH,.int .i64 o.bh,.int .i64 o.aT,.int .i64 o.aQ,.bool o.aJ,.slice (L.dA k) o.data.length (L.dC k)]:=by
 unfold l5 FY;rw [t8 h];rfl
theorem EJ (h:o.kind=3):l5 L k o=[.int .i64 o.id,.int .i64 o.mode,.int .i64 o.cM,.int .i64 o.cO,.int .i64 o.bH,.int .i64 o.bh,.int .i64 o.aT,.int .i64 o.aQ,.bool o.aJ,.string o.target]:=by
 unfold l5 FY;rw [nw (by rw [h];decide),t8 h];rfl
theorem uy (h:o.kind=2):l5 L k o=[.int .i64 o.id,.int .i64 o.mode,.int .i64 o.cM,.int .i64 o.cO,.int .i64 o.bH,.int .i64 o.bh,.int .i64 o.aT,.int .i64 o.aQ,.bool o.aJ,.map (some (L.m k)),L8 L o.up]:=by
 unfold l5 FY;rw [nw (by rw [h];decide),nw (by rw [h];decide)];rfl
theorem Oz {es:bV->jj Th}:fV (bD O k (λo=>{o with aq:=es o})) L=fV O L:=by
 funext x
 unfold fV
 by_cases e:x=k
 ·subst e;rw [iF];rfl
 rw [jk e]
def uz (O:eu) (d:Nat) (name:ByteArray) (t:Th):eu:=
 let O1:=bD O d (λo=>{o with aq:=kT name t o.aq})
 let O2:=bD O1 t.k (λo=>{o with aT:=o.aT+1})
 if t.kind=2 then bD O2 t.k (λo=>{o with up:=some d}) else O2
theorem Ih {α:Type} {g:bV->α} {d:Nat} {name:ByteArray} {t:Th} (h1:∀o es,g {o with aq:=es}=g o) (h2:∀o l,g {o with aT:=l}=g o) (h3:∀o u,g {o with up:=u}=g o):g (ah (uz O d name t) k)=g (ah O k):=by
 unfold uz
 simp only
 split
 ·rw [eU (λo=>h3 o _),eU (λo=>h2 o _),eU (λo=>h1 o _)]
 rw [eU (λo=>h2 o _),eU (λo=>h1 o _)]
theorem EK {d:Nat} {name:ByteArray} {t:Th}:(ah (uz O d name t) k).kind=(ah O k).kind:=Ih (g:=bV.kind) (λ_ _=>rfl) (λ_ _=>rfl) (λ_ _=>rfl)
structure FM where
 cN:Int
 cB:Int
 cH:Int
 cS:Int
 cZ:Int
 last:Int
 aq:Int
 used:Int
def xY (X:FM) (O:eu) (d:Nat):eu:=bD O d (λo=>{o with bH:=X.cS,bh:=X.cZ})
def dV (X:FM) (O:eu) (d:Nat) (name:ByteArray) (t:Th):eu:=xY X (uz O d name t) d
def bn (X:FM) (O:eu) (d:Nat) (name:ByteArray) (t:Th):eu:=bD (xY X (bD O d (λo=>{o with aq:=kU name o.aq})) d) t.k (λo=>{o with aT:=o.aT-1})
theorem fW {X:FM} {d:Nat} {name:ByteArray} {t:Th}:(ah (bn X O d name t) k).kind=(ah O k).kind:=by
 unfold bn xY
 exact (ux (f:=λo=>{o with aT:=o.aT-1}) (λ_=>rfl)).trans ((ux (f:=λo=>{o with bH:=X.cS,bh:=X.cZ}) (λ_=>rfl)).trans (ux (f:=λo=>{o with aq:=kU name o.aq}) (λ_=>rfl)))
theorem Ra {X:FM} {d:Nat} {name:ByteArray} {t:Th}:(ah (dV X O d name t) k).kind=(ah O k).kind:=by
 grind [dV,xY,ux,EK]
end kinds
section sat
variable {β:Bs} {l l':List HP} {w:World} {i j k:Nat} {O:eu} {L:HL} {f:bV->bV} {cs:List Value} {T:TypeId} {ax:List Nat}
theorem aP.ad8 (h:aP β l w) (hp:l[i]?=some (.abs (bp (fV O L)))) (h0:(ah O k).kind≠0) (hc:l5 L k (ah O k)=cs) (hT:yG (ah O k).kind=T):aP β (l.set i (.abs (bp (pU (fV O L) k eG.none)))++[.aD (L.b k) cs T]) w:=by
 have h1:=h.Jj hp k
 have jX:(l.set i (HP.abs (bp (pU (fV O L) k eG.none)))).length=l.length:=T7 ..
 have h2:=aP.same (i:=l.length) (p:=.abs (fV O L k)) (p':=.aD (L.b k) cs T) h1 (by rw [aiO d5,jX,Nat.sub_self];rfl) (λF w h=>by
  have h3:(fV O L k).h F w:=h
  rw [rL h0] at h3
  have h3:(KF (L.b k) (l5 L k (ah O k)) (yG (ah O k).kind)).h F w:=h3
  rw [hc,hT] at h3
  exact h3)
 have e:∀(a:List HP) (x y:HP),(a++[x]).set a.length y=a++[y]:=λa x y=>nh
 grind
theorem F7 {R:Nat->eG} {a:eG} {x:Nat} (h:x≠k):pU R k a x=R x:=nw h
theorem aP.ad9 (h:aP β l w) (hp:l[i]?=some (.abs (bp (iE O L)))) (hd:(ah O k).kind=2):aP β (l.set i (.abs (bp (pU (iE O L) k eG.none)))++[.abs (bM Tryz.prog 9 (L.m k) (nI L (ah O k).aq) (ah O k).aq.length)]) w:=by
 have h1:=h.Jj hp k
 rw [uX hd] at h1
 exact h1
theorem aP.aea (h:aP β l w) (hp:l[i]?=some (.abs (bp (pU (iE O L) k eG.none)))) (hq:l[j]?=some (.abs (bM Tryz.prog 9 (L.m k) (nI L (ah O k).aq) (ah O k).aq.length))) (hd:bU (i::j::ax)=true) (hl:cT l ax=some l') (h2:(ah O k).kind=2):aP β (.abs (bp (iE O L))::l') w:=
 h.yX hp hq (λ_ _ h=>h) hd hl k (λ_ hx=>(F7 hx).symm) (uX h2)
theorem aP.Wl (h:aP β l w) (hp:l[i]?=some (.abs (bp (eY O L)))) (hd:(ah O k).kind=1):aP β (l.set i (.abs (bp (pU (eY O L) k eG.none)))++[.abs (aI 5 1 (L.dA k) (ah O k).data.length (L.dC k) (d9 (ah O k).data))]) w:=by
 have h1:=h.Jj hp k
 rw [zU hd] at h1
 exact h1
end sat
end
section
open Go.RowKit
theorem kA.wide {ns:List aO} {b b':Nat} (h:kA ns b) (hb:b<=b'):kA ns b':=⟨Pe h.len hb,λi hi=>by
 have:=h.node i hi
 exact⟨this.ids,Pe this.data hb,Pe this.target hb,Pe this.aq hb,λj hj=>⟨(this.bR j hj).id,Pe (this.bR j hj).name hb⟩⟩⟩
section gb
variable {ns:List aO} (h:kA ns 1048576)
include h
theorem vJ:ns.length<=1048576:=by have:=h.len;omega
theorem F8:∀i,i<ns.length->(nd ns i).data.length<=1048576/\(nd ns i).aq.length<=1048576:=λi hi=>by
 have h1:=(h.node i hi).data
 have h2:=(h.node i hi).aq
 omega
theorem Jo:∀i,i<ns.length->∀j,j<(nd ns i).aq.length->-9223372036854775808<=(bR ns i j).id/\(bR ns i j).id<=9223372036854775807:=λi hi j hj=>((h.node i hi).bR j hj).id
theorem Jp:∀i,i<ns.length->∀j,j<(nd ns i).aq.length->(bR ns i j).name.size<=1048576:=λi hi j hj=>by
 have h1:=((h.node i hi).bR j hj).name
 unfold bR
 omega
theorem abP:∀i,i<ns.length->(nd ns i).target.size<=1048576:=λi hi=>by
 have h1:=(h.node i hi).target
 omega
end gb
structure agR (X:FM):Prop where
 cN:uU X.cN
 cB:uU X.cB
 cH:uU X.cH
 cS:uU X.cS
 cZ:uU X.cZ
end
end Go.Proofs.YtfececghhgeapaaGreatDoor
section
namespace Go.Proofs
open Go.Shelf
def Tryz.keysI_ren:Go.Shelf.Ren:=⟨fun|7=>72|10=>105|n=>n,fun|23=>170|26=>3|3=>175|28=>178|0=>0|27=>177|33=>235|4=>4|n=>n,fun|n=>n⟩
theorem Tryz.keysI:Go.Proofs.SlLaysZI.n7 Tryz.prog Tryz.keysI_ren:={
 mixed:=by kernel_rfl
 f7:=⟨Tryz.f72.name,by decide,Tryz.func72.trans (congrArg some (by kernel_rfl))⟩
 f10:=⟨Tryz.f105.name,by decide,Tryz.func105.trans (congrArg some (by kernel_rfl))⟩
 t0:=Tryz.underlying0
 a0:=Tryz.isAgg0
 z0:=Tryz.sizeOf0
 v0:=Tryz.zeroValue0
 t4:=Tryz.underlying4
 a4:=Tryz.isAgg4
 z4:=Tryz.sizeOf4
 v4:=Tryz.zeroValue4
 t23:=Tryz.underlying170
 a23:=Tryz.isAgg170
 z23:=Tryz.sizeOf170
 v23:=Tryz.zeroValue170
 t26:=Tryz.underlying3
 a26:=Tryz.isAgg3
 z26:=Tryz.sizeOf3
 v26:=Tryz.zeroValue3
 t27:=Tryz.underlying177
 a27:=Tryz.isAgg177
 z27:=Tryz.sizeOf177
 v27:=Tryz.zeroValue177
 t28:=Tryz.underlying178
 a28:=Tryz.isAgg178
 z28:=Tryz.sizeOf178
 v28:=Tryz.zeroValue178
 t33:=Tryz.underlying235
 a33:=Tryz.isAgg235
 z33:=Tryz.sizeOf235
 v33:=Tryz.zeroValue235}
def Tryz.sortedI_ren:Go.Shelf.Ren:=⟨fun|6=>71|8=>103|9=>104|11=>120|13=>122|12=>121|23=>141|24=>142|14=>132|15=>133|16=>134|17=>135|18=>136|19=>137|20=>138|21=>139|22=>140|25=>155|26=>156|27=>157|28=>158|29=>159|30=>160|31=>167|n=>n,fun|26=>3|28=>178|24=>41|0=>0|3=>3|37=>253|48=>271|50=>273|4=>4|40=>264|39=>263|45=>268|5=>5|9=>9|51=>281|55=>285|57=>290|58=>291|33=>235|n=>n,fun|n=>n⟩
theorem Tryz.sortedI:Go.Proofs.SlLaysZI.n6 Tryz.prog Tryz.sortedI_ren:={
 mixed:=by kernel_rfl
 f6:=⟨Tryz.f71.name,by decide,Tryz.func71.trans (congrArg some (by kernel_rfl))⟩
 f8:=⟨Tryz.f103.name,by decide,Tryz.func103.trans (congrArg some (by kernel_rfl))⟩
 f11:=⟨Tryz.f120.name,by decide,Tryz.func120.trans (congrArg some (by kernel_rfl))⟩
 t0:=Tryz.underlying0
 a0:=Tryz.isAgg0
 z0:=Tryz.sizeOf0
 v0:=Tryz.zeroValue0
 t24:=Tryz.underlying41
 a24:=Tryz.isAgg41
 z24:=Tryz.sizeOf41
 v24:=Tryz.zeroValue41
 t26:=Tryz.underlying3
 a26:=Tryz.isAgg3
 z26:=Tryz.sizeOf3
 v26:=Tryz.zeroValue3
 t28:=Tryz.underlying178
 a28:=Tryz.isAgg178
 z28:=Tryz.sizeOf178
 v28:=Tryz.zeroValue178
 i26:=by kernel_rfl}
def Tryz.sortI_ren:Go.Shelf.Ren:=⟨fun|5=>104|8=>122|7=>121|19=>141|20=>142|10=>132|11=>133|12=>134|13=>135|14=>136|15=>137|16=>138|17=>139|18=>140|30=>155|31=>156|32=>157|33=>158|34=>159|35=>160|40=>167|n=>n,fun|23=>41|25=>3|3=>3|32=>253|22=>41|0=>0|44=>271|46=>273|4=>4|36=>264|35=>263|41=>268|5=>5|9=>9|53=>281|57=>285|63=>290|64=>291|n=>n,fun|n=>n⟩
theorem Tryz.sortI:Go.Proofs.SlLaysM.n5 Tryz.prog Tryz.sortI_ren:={
 mixed:=by kernel_rfl
 f5:=⟨Tryz.f104.name,by decide,Tryz.func104.trans (congrArg some (by kernel_rfl))⟩
 f7:=⟨Tryz.f121.name,by decide,Tryz.func121.trans (congrArg some (by kernel_rfl))⟩
 f8:=Tryz.func122.trans (congrArg some (by kernel_rfl))
 f10:=⟨Tryz.f132.name,by decide,Tryz.func132.trans (congrArg some (by kernel_rfl))⟩
 f11:=⟨Tryz.f133.name,by decide,Tryz.func133.trans (congrArg some (by kernel_rfl))⟩
 f12:=⟨Tryz.f134.name,by decide,Tryz.func134.trans (congrArg some (by kernel_rfl))⟩
 f13:=⟨Tryz.f135.name,by decide,Tryz.func135.trans (congrArg some (by kernel_rfl))⟩
 f14:=⟨Tryz.f136.name,by decide,Tryz.func136.trans (congrArg some (by kernel_rfl))⟩
 f15:=⟨Tryz.f137.name,by decide,Tryz.func137.trans (congrArg some (by kernel_rfl))⟩
 f16:=⟨Tryz.f138.name,by decide,Tryz.func138.trans (congrArg some (by kernel_rfl))⟩
 f17:=⟨Tryz.f139.name,by decide,Tryz.func139.trans (congrArg some (by kernel_rfl))⟩
 f18:=⟨Tryz.f140.name,by decide,Tryz.func140.trans (congrArg some (by kernel_rfl))⟩
 f19:=Tryz.func141.trans (congrArg some (by kernel_rfl))
 f20:=Tryz.func142.trans (congrArg some (by kernel_rfl))
 f30:=⟨Tryz.f155.name,by decide,Tryz.func155.trans (congrArg some (by kernel_rfl))⟩
 f31:=Tryz.func156.trans (congrArg some (by kernel_rfl))
 f32:=Tryz.func157.trans (congrArg some (by kernel_rfl))
 f33:=⟨Tryz.f158.name,by decide,Tryz.func158.trans (congrArg some (by kernel_rfl))⟩
 f34:=⟨Tryz.f159.name,by decide,Tryz.func159.trans (congrArg some (by kernel_rfl))⟩
 f35:=⟨Tryz.f160.name,by decide,Tryz.func160.trans (congrArg some (by kernel_rfl))⟩
 f40:=⟨Tryz.f167.name,by decide,Tryz.func167.trans (congrArg some (by kernel_rfl))⟩
 t0:=Tryz.underlying0
 a0:=Tryz.isAgg0
 z0:=Tryz.sizeOf0
 v0:=Tryz.zeroValue0
 t3:=Tryz.underlying3
 a3:=Tryz.isAgg3
 z3:=Tryz.sizeOf3
 v3:=Tryz.zeroValue3
 t4:=Tryz.underlying4
 a4:=Tryz.isAgg4
 z4:=Tryz.sizeOf4
 v4:=Tryz.zeroValue4
 t5:=Tryz.underlying5
 a5:=Tryz.isAgg5
 z5:=Tryz.sizeOf5
 v5:=Tryz.zeroValue5
 t9:=Tryz.underlying9
 a9:=Tryz.isAgg9
 z9:=Tryz.sizeOf9
 v9:=Tryz.zeroValue9
 t22:=Tryz.underlying41
 a22:=Tryz.isAgg41
 z22:=Tryz.sizeOf41
 v22:=Tryz.zeroValue41
 t23:=Tryz.underlying41
 a23:=Tryz.isAgg41
 z23:=Tryz.sizeOf41
 v23:=Tryz.zeroValue41
 t25:=Tryz.underlying3
 a25:=Tryz.isAgg3
 z25:=Tryz.sizeOf3
 v25:=Tryz.zeroValue3
 t32:=Tryz.underlying253
 a32:=Tryz.isAgg253
 z32:=Tryz.sizeOf253
 v32:=Tryz.zeroValue253
 t35:=Tryz.underlying263
 a35:=Tryz.isAgg263
 z35:=Tryz.sizeOf263
 v35:=Tryz.zeroValue263
 t36:=Tryz.underlying264
 a36:=Tryz.isAgg264
 z36:=Tryz.sizeOf264
 v36:=Tryz.zeroValue264
 t41:=Tryz.underlying268
 a41:=Tryz.isAgg268
 z41:=Tryz.sizeOf268
 v41:=Tryz.zeroValue268
 t44:=Tryz.underlying271
 a44:=Tryz.isAgg271
 z44:=Tryz.sizeOf271
 v44:=Tryz.zeroValue271
 t46:=Tryz.underlying273
 a46:=Tryz.isAgg273
 z46:=Tryz.sizeOf273
 v46:=Tryz.zeroValue273
 t53:=Tryz.underlying281
 a53:=Tryz.isAgg281
 z53:=Tryz.sizeOf281
 v53:=Tryz.zeroValue281
 t57:=Tryz.underlying285
 a57:=Tryz.isAgg285
 z57:=Tryz.sizeOf285
 v57:=Tryz.zeroValue285
 t63:=Tryz.underlying290
 a63:=Tryz.isAgg290
 z63:=Tryz.sizeOf290
 v63:=Tryz.zeroValue290
 t64:=Tryz.underlying291
 a64:=Tryz.isAgg291
 z64:=Tryz.sizeOf291
 v64:=Tryz.zeroValue291}
end Go.Proofs
end
namespace Go.Proofs.YtfececghhgeapaaGreatDoor
section
open Go.RowKit
theorem af4 (a:Addr) (v:Value) (w:World) (h:w.cell? a=some v):(Go.method 481 342 (.pointer (some a)) "Len").run Tryz.prog w=.ok (283,v) w:=by
 have e:(Go.method 481 342 (.pointer (some a)) "Len").run Tryz.prog w=((loadVar 231 a) >>= λv=>pure (283,v):Sem (FuncId×Value)).run Tryz.prog w:=d6
 rw [e]
 simp [loadVar,isAgg,underlying,Tryz.underlying231,h,Result.andThen]
theorem aeb (a:Addr) (v:Value) (w:World) (h:w.cell? a=some v):(Go.method 481 342 (.pointer (some a)) "Less").run Tryz.prog w=.ok (284,v) w:=by
 have e:(Go.method 481 342 (.pointer (some a)) "Less").run Tryz.prog w=((loadVar 231 a) >>= λv=>pure (284,v):Sem (FuncId×Value)).run Tryz.prog w:=d6
 rw [e]
 simp [loadVar,isAgg,underlying,Tryz.underlying231,h,Result.andThen]
theorem aec (a:Addr) (v:Value) (w:World) (h:w.cell? a=some v):(Go.method 481 342 (.pointer (some a)) "Swap").run Tryz.prog w=.ok (285,v) w:=by
 have e:(Go.method 481 342 (.pointer (some a)) "Swap").run Tryz.prog w=((loadVar 231 a) >>= λv=>pure (285,v):Sem (FuncId×Value)).run Tryz.prog w:=d6
 rw [e]
 simp [loadVar,isAgg,underlying,Tryz.underlying231,h,Result.andThen]
theorem aed (a:Addr) (w:World):(Go.method 481 342 (.pointer (some a)) "Push").run Tryz.prog w=.ok (287,.pointer (some a)) w:=d6
theorem af5 (a:Addr) (w:World):(Go.method 481 342 (.pointer (some a)) "Pop").run Tryz.prog w=.ok (286,.pointer (some a)) w:=d6
theorem abQ (a:Addr) (w:World):(Go.nilAhead 481 342 (.pointer (some a)) "Len").run Tryz.prog w=.ok (some false) w:=d6
theorem Wm (a:Addr) (w:World):(Go.nilAhead 481 342 (.pointer (some a)) "Less").run Tryz.prog w=.ok (some false) w:=d6
theorem OA (a:Addr) (w:World):(Go.nilAhead 481 342 (.pointer (some a)) "Swap").run Tryz.prog w=.ok (some false) w:=d6
theorem aee (a:Addr) (w:World):(Go.nilAhead 481 342 (.pointer (some a)) "Push").run Tryz.prog w=.ok (some false) w:=d6
theorem af6 (a:Addr) (w:World):(Go.nilAhead 481 342 (.pointer (some a)) "Pop").run Tryz.prog w=.ok (some false) w:=d6
theorem OB (A:Option Addr) (n c:Nat) (w:World) :
 Calls Tryz.prog 283 #[.slice A n c] w λe w'=>e=.returned (.int .i64 n)/\w'=w:=by
 go_enter Tryz.func283,Tryz.ntmps283
 go_wp2
 go_ret
 exact⟨rfl,rfl⟩
theorem Wn (g n c i j:Nat) (x y:Int) (w:World) (hi:i<n) (hj:j<n) (ci:w.cell? ⟨g,i,none⟩=some (.int .i64 x)) (cj:w.cell? ⟨g,j,none⟩=some (.int .i64 y)) :
 Calls Tryz.prog 284 #[.slice (some ⟨g,0,none⟩) n c,.int .i64 i,.int .i64 j] w λe w'=>e=.returned (.bool (decide (x<y)))/\∃m,w'=w.drewN m:=by
 have hi':(i:Int)<(n:Int):=d5
 have hj':(j:Int)<(n:Int):=d5
 go_enter Tryz.func284,Tryz.ntmps284
 go_wp2_with fail
 go_quiet (fail)
 go_wp2_with fail
 go_ret
 exact⟨rfl,_,rfl⟩
theorem Wo (g n c i j:Nat) (x y:Int) (w:World) (hi:i<n) (hj:j<n) (hij:i≠j) (ci:w.cell? ⟨g,i,none⟩=some (.int .i64 x)) (cj:w.cell? ⟨g,j,none⟩=some (.int .i64 y))
 (fi:w.frozen? ⟨g,i,none⟩=false) (fj:w.frozen? ⟨g,j,none⟩=false) :
 Calls Tryz.prog 285 #[.slice (some ⟨g,0,none⟩) n c,.int .i64 i,.int .i64 j] w λe w'=>e=.returned (.tuple #[])/\∃m,w'=((w.setCell ⟨g,i,none⟩ (.int .i64 y)).setCell ⟨g,j,none⟩ (.int .i64 x)).drewN m:=by
 have hi':(i:Int)<(n:Int):=d5
 have hj':(j:Int)<(n:Int):=d5
 go_enter Tryz.func285,Tryz.ntmps285
 go_wp2_with fail
 go_region
 go_end0
 exact⟨rfl,1,rfl⟩
theorem Zv:(Tryz.prog.info? 3).map (λi=>(i.zero,i.size,i.bytes))=some (some (.int .i64 0),1,8):=d6
theorem Zw (t o g n c:Nat) (x:Int) (w:World) (hc:n+1<=c) (ht:w.cell? ⟨t,o,none⟩=some (.slice (some ⟨g,0,none⟩) (n+1) c)) (hf:w.frozen? ⟨t,o,none⟩=false)
 (hx:w.cell? ⟨g,n,none⟩=some (.int .i64 x)) (hm:n+1<=1048576) :
 Calls Tryz.prog 286 #[.pointer (some ⟨t,o,none⟩)] w λe w'=>e=.returned (.iface 3 (.int .i64 x))/\w'=w.setCell ⟨t,o,none⟩ (.slice (some ⟨g,0,none⟩) n c):=by
 go_enter Tryz.func286,Tryz.ntmps286
 go_wp2_with fail
 go_ret
 exact⟨rfl,rfl⟩
theorem Ua (x:Int) (w:World):(Instr.typeAssert (.iface 3 (.int .i64 x)) 20 3 false).run Tryz.prog w=.ok (.int .i64 x) w:=d6
theorem Rb (x:Int):∀u∈[Value.int .i64 x],u.oneCell'=true:=by intro u hu;simp at hu;subst hu;rfl
theorem Wp {t o:Nat} {v:Value} {w w1:World} {ob:Obj} (ht:w.cell? ⟨t,o,none⟩=some v) (fX:t<w.heap.size) {row:Option Nat} (cF:row≠some t) (hg:(w.alloc ob).drew.grownBy w1 row):w1.cell? ⟨t,o,none⟩=some v:=by
 rw [hg.cell_far ⟨t,o,none⟩ (by show t<(w.alloc ob).heap.size;simp;omega) (λe=>cF e.symm)]
 exact (World.cell?_alloc_lt w ob ⟨t,o,none⟩ fX).trans ht
theorem Wq {t o:Nat} {w w1:World} {ob:Obj} (hf:w.frozen? ⟨t,o,none⟩=false) (fX:t<w.heap.size) {row:Option Nat} (cF:row≠some t) (hg:(w.alloc ob).drew.grownBy w1 row):w1.frozen? ⟨t,o,none⟩=false:=by
 rw [hg.frozen_far ⟨t,o,none⟩ (by show t<(w.alloc ob).heap.size;simp;omega) (λe=>cF e.symm)]
 exact (World.frozen?_alloc_old w ob ⟨t,o,none⟩ (Nat.ne_of_lt fX)).trans hf
theorem Wr (t o base n:Nat) (v:Value) (xs:List Value) (x:Int) (w:World) (ht:w.cell? ⟨t,o,none⟩=some v) (hf:w.frozen? ⟨t,o,none⟩=false)
 (qt:w.ownsRow base 3 1 v n xs) (cF:v.ownBlock≠some t) (hm:n+1<=1048576) (hbase:base<=w.heap.size) :
 Calls Tryz.prog 287 #[.pointer (some ⟨t,o,none⟩),.iface 3 (.int .i64 x)] w λe w'=>e=.returned (.tuple #[]) ∧
  ∃g cap w1,w1.ownsRow base 3 1 (.slice (some ⟨g,0,none⟩) (n+1) cap) (n+1) (xs++[.int .i64 x])/\w.grownBy w1 v.ownBlock/\(v.ownBlock=some g\/w.heap.size<=g) ∧
    w'=w1.setCell ⟨t,o,none⟩ (.slice (some ⟨g,0,none⟩) (n+1) cap):=by
 obtain⟨i0,hi0,hz0,hz1,hz2⟩:=info_parts Zv
 have fX:t<w.heap.size:=by
  rcases Nat.lt_or_ge t w.heap.size with h|h
  ·exact h
  simp [World.cell?,Array.getElem?_eq_none h] at ht
 have Jq:=Ua
 go_enter Tryz.func287,Tryz.ntmps287
 go_wp2_with fail
 go_region_law (refine step_append_lies _ rfl (.tmp 7) (.tmp 10) 231 rfl base 3 i0 (.int .i64 0) 1 8 Tryz.underlying231 hi0 hz0 hz1 hz2 rfl d8 v n xs (by simp [Act.eval]) (qt.alloc _) ⟨w.heap.size,0,none⟩ 1 1 [.int .i64 x] (by simp [Act.eval]) rfl (cell_one_new _ _ _) (Rb x) d8 (by unfold maxLen;omega) d5 (by simp;omega) (w.heap.size+1) nh ?_;intro g cap w1 hown1 hg1 Ub ah1;have c1:w1.cell? ⟨t,o,none⟩=some v:=Wp ht fX cF hg1;have f1:w1.frozen? ⟨t,o,none⟩=false:=Wq hf fX cF hg1)
 all_goals
  go_end0
  refine⟨rfl,g,cap,w1,hown1,(World.grownBy_alloc w (.cells #[.int .i64 x] 3) _).trans ⟨hg1.os,hg1.tape,hg1.output,hg1.size,hg1.block⟩,?_,rfl⟩
  rcases Ub with h|h
  ·exact .inl h
  exact .inr d5
end
end Go.Proofs.YtfececghhgeapaaGreatDoor
section
namespace Go.Proofs.YtfececghhgeapaaGreatDoor.bw
def at_ (l:List Int) (i:Nat):Int:=l.getD i 0
def swp (l:List Int) (i j:Nat):List Int:=(l.set i (at_ l j)).set j (at_ l i)
def Hp (n:Nat) (l:List Int):Prop:=∀i,0<i->i<n->at_ l ((i-1) / 2)<=at_ l i
def EL (l:List Int):Prop:=∀a b,a<l.length->b<l.length->at_ l a=at_ l b->a=b
def KG (l:List Int) (j:Nat):Prop:=
 (∀i,0<i->i<l.length->i≠j->at_ l ((i-1) / 2)<=at_ l i)/\(∀i,0<i->i<l.length->(i-1) / 2=j->0<j->at_ l ((j-1) / 2)<=at_ l i)
def CJ (n:Nat) (l:List Int) (i:Nat):Prop:=
 (∀k,0<k->k<n->(k-1) / 2≠i->at_ l ((k-1) / 2)<=at_ l k)/\(∀k,0<k->k<n->(k-1) / 2=i->0<i->at_ l ((i-1) / 2)<=at_ l k)
structure Same (l l':List Int):Prop where
 len:l'.length=l.length
 mem:∀x,x∈l'↔x∈l
 inj:EL l->EL l'
theorem zV {l:List Int} {x:Int}:x∈l↔∃k,k<l.length/\at_ l k=x:=by
 rw [aiJ]
 constructor
 ·rintro⟨i,h,e⟩
  exact⟨i,h,by simp [at_,List.getD_eq_getElem?_getD,h,e]⟩
 rintro⟨i,h,e⟩
 exact⟨i,h,by simpa [at_,List.getD_eq_getElem?_getD,h] using e⟩
theorem qL (l:List Int) (i j:Nat):(swp l i j).length=l.length:=by simp [swp]
def sw (i j k:Nat):Nat:=if k=j then i else if k=i then j else k
theorem oM {l:List Int} {i j:Nat} (hi:i<l.length) (hj:j<l.length) (k:Nat):at_ (swp l i j) k=at_ l (sw i j k):=by
 unfold swp at_ sw
 grind
theorem Uc (i j k:Nat):sw i j (sw i j k)=k:=by unfold sw;(repeat' split)<;>omega
theorem Nu {i j k n:Nat} (hi:i<n) (hj:j<n) (hk:k<n):sw i j k<n:=by unfold sw;(repeat' split)<;>omega
theorem Same.refl (l:List Int):Same l l:=⟨rfl,λ_=>Iff.rfl,λh=>h⟩
theorem Same.trans {l l' l'':List Int} (h:Same l l') (k:Same l' l''):Same l l'':=⟨k.len.trans h.len,λx=>(k.mem x).trans (h.mem x),λi=>k.inj (h.inj i)⟩
theorem Same.swp {l:List Int} {i j:Nat} (hi:i<l.length) (hj:j<l.length):Same l (swp l i j):=by
 refine⟨qL l i j,λx=>?_,λinj a b ha hb e=>?_⟩
 ·rw [zV,zV,qL]
  constructor
  ·rintro⟨k,hk,e⟩
   exact⟨sw i j k,Nu hi hj hk,by rw [←oM hi hj];exact e⟩
  rintro⟨k,hk,e⟩
  exact⟨sw i j k,Nu hi hj hk,by rw [oM hi hj,Uc];exact e⟩
 rw [qL] at ha hb
 rw [oM hi hj,oM hi hj] at e
 have:=inj _ _ (Nu hi hj ha) (Nu hi hj hb) e
 rw [←Uc i j a,this,Uc]
theorem Ws {l:List Int} {j:Nat} (h:KG l j) (he:j=0\/at_ l ((j-1) / 2)<=at_ l j):Hp l.length l:=by
 intro i h0 hi
 by_cases e:i=j
 ·subst e
  rcases he with he|he
  ·omega
  exact he
 exact h.1 i h0 hi e
theorem acT {l:List Int} {j:Nat} (h:KG l j) (h0:0<j) (hj:j<l.length) (fX:at_ l j<at_ l ((j-1) / 2)):KG (swp l ((j-1) / 2) j) ((j-1) / 2):=by
 have hp:(j-1) / 2<l.length:=d5
 have cF:(j-1) / 2≠j:=d5
 refine⟨λi i0 il ine=>?_,λi i0 il ip p0=>?_⟩
 ·rw [qL] at il
  rw [oM hp hj,oM hp hj]
  by_cases e1:i=j
  ·subst e1
   rw [show sw ((i-1) / 2) i ((i-1) / 2)=i by unfold sw;rw [nw cF,t8 rfl],show sw ((i-1) / 2) i i=(i-1) / 2 by unfold sw;rw [t8 rfl]]
   omega
  rw [show sw ((j-1) / 2) j i=i by unfold sw;rw [nw e1,nw ine]]
  by_cases e2:(i-1) / 2=j
  ·rw [show sw ((j-1) / 2) j ((i-1) / 2)=(j-1) / 2 by unfold sw;rw [t8 e2]]
   exact h.2 i i0 il e2 h0
  by_cases e3:(i-1) / 2=(j-1) / 2
  ·rw [show sw ((j-1) / 2) j ((i-1) / 2)=j by unfold sw;rw [nw e2,t8 e3]]
   have:=h.1 i i0 il e1
   rw [e3] at this
   omega
  rw [show sw ((j-1) / 2) j ((i-1) / 2)=(i-1) / 2 by unfold sw;rw [nw e2,nw e3]]
  exact h.1 i i0 il e1
 rw [qL] at il
 rw [oM hp hj,oM hp hj]
 have a1:=h.1 ((j-1) / 2) p0 hp cF
 rw [show sw ((j-1) / 2) j (((j-1) / 2-1) / 2)=((j-1) / 2-1) / 2 by unfold sw;rw [nw d5,nw d5]]
 by_cases e1:i=j
 ·subst e1
  rw [show sw ((i-1) / 2) i i=(i-1) / 2 by unfold sw;rw [t8 rfl]]
  exact a1
 have a2:=h.1 i i0 il e1
 rw [show sw ((j-1) / 2) j i=i by unfold sw;rw [nw e1,nw d5]]
 rw [ip] at a2
 omega
theorem Ds {n:Nat} {l:List Int} {i:Nat} (h:CJ n l i) (h1:2*i+1<n->at_ l i<=at_ l (2*i+1)) (h2:2*i+2<n->at_ l i<=at_ l (2*i+2)):Hp n l:=by
 intro k k0 kn
 by_cases e:(k-1) / 2=i
 ·grind
 exact h.1 k k0 kn e
theorem EM {n:Nat} {l:List Int} {i j:Nat} (h:CJ n l i) (hj:j=2*i+1\/j=2*i+2) (hjn:j<n) (hn:n<=l.length)
 (h1:at_ l j<=at_ l (2*i+1)) (h2:2*i+2<n->at_ l j<=at_ l (2*i+2)) (fX:at_ l j<at_ l i):CJ n (swp l i j) j:=by
 have hi:i<l.length:=d5
 have hjl:j<l.length:=d5
 refine⟨λk k0 kn kne=>?_,λk k0 kn ke j0=>?_⟩
 ·rw [oM hi hjl,oM hi hjl]
  by_cases e1:(k-1) / 2=i
  ·rw [e1,show sw i j i=j by unfold sw;rw [nw d5,t8 rfl]]
   by_cases e2:k=j
   ·rw [e2,show sw i j j=i by unfold sw;rw [t8 rfl]];omega
   rw [show sw i j k=k by unfold sw;rw [nw e2,nw d5]]
   grind
  rw [show sw i j ((k-1) / 2)=(k-1) / 2 by unfold sw;rw [nw kne,nw e1]]
  by_cases e2:k=i
  ·rw [e2,show sw i j i=j by unfold sw;rw [nw d5,t8 rfl],←e2]
   have hjk:(j-1) / 2=i:=d5
   rw [e2]
   exact h.2 j d5 hjn hjk d5
  rw [show sw i j k=k by unfold sw;rw [nw d5,nw e2]]
  exact h.1 k k0 kn e1
 rw [oM hi hjl,oM hi hjl]
 rw [show (j-1) / 2=i by omega,show sw i j i=j by unfold sw;rw [nw d5,t8 rfl],show sw i j k=k by unfold sw;rw [nw d5,nw d5]]
 have:=h.1 k k0 kn d5
 rw [ke] at this
 exact this
theorem aR {n:Nat} {l:List Int} (h:Hp n l):∀k,k<n->at_ l 0<=at_ l k:=by
 intro k
 induction k using Nat.strongRecOn with
 |_ k ih=>
   intro hk
   rcases Nat.eq_zero_or_pos k with e|e
   ·rw [e];omega
   have a1:=ih ((k-1) / 2) d5 d5
   have a2:=h k e hk
   omega
theorem Ud {n:Nat} {l:List Int} (h:Hp (n+1) l) (hl:l.length=n+1):CJ n (swp l 0 n) 0:=by
 refine⟨λk k0 kn kne=>?_,λk _ _ _ h0=>d5⟩
 rw [oM d5 d5,oM d5 d5]
 rw [show sw 0 n ((k-1) / 2)=(k-1) / 2 by unfold sw;rw [nw d5,nw kne],show sw 0 n k=k by unfold sw;rw [nw d5,nw d5]]
 exact h k k0 d5
theorem Zx {l:List Int} (h:Hp l.length l) (x:Int):KG (l++[x]) l.length:=by
 have e:∀k,k<l.length->at_ (l++[x]) k=at_ l k:=λk hk=>by
  unfold at_
  grind
 refine⟨λi i0 il ine=>?_,λi i0 il ip=>?_⟩
 ·rw [T3,aiW] at il
  rw [e _ d5,e _ d5]
  exact h i i0 d5
 grind
theorem acU {l:List Int} {n:Nat} (hl:l.length=n+1) (hi:EL l) (x:Int):x∈l.take n↔x∈l/\x≠at_ l n:=by
 constructor
 ·intro h
  refine⟨List.mem_of_mem_take h,?_⟩
  rintro rfl
  obtain⟨k,hk,e⟩:=aiJ.1 h
  simp at hk e
  have:=hi k n d5 d5 (by simp [at_,List.getD_eq_getElem?_getD,show k<l.length by omega,e])
  omega
 rintro⟨h,cF⟩
 obtain⟨k,hk,e⟩:=zV.1 h
 have:k≠n:=by rintro rfl;exact cF e.symm
 refine aiJ.2 ⟨k,by simp;omega,?_⟩
 simp only [at_,aiw,hk,T6,Option.getD_some] at e
 simpa using e
theorem F9 {l:List Int} {n k:Nat} (hk:k<n):at_ (l.take n) k=at_ l k:=by simp [at_,List.getD_eq_getElem?_getD,hk]
theorem acV {l:List Int} {n:Nat} (h:Hp n l):Hp n (l.take n):=λi i0 hi=>by rw [F9 hi,F9 d5];exact h i i0 hi
theorem Zy {l:List Int} {n:Nat} (h:EL l):EL (l.take n):=λa b ha hb e=>by
 simp at ha hb
 rw [F9 d5,F9 d5] at e
 exact h a b d5 d5 e
end Go.Proofs.YtfececghhgeapaaGreatDoor.bw
end
namespace Go.Proofs.YtfececghhgeapaaGreatDoor
section
open Go.RowKit bw
def bL (l:List Int):List Value:=l.map (Value.int .i64)
theorem tQ (g n c a b:Nat) (i j:Int) (hi:i=(a:Int)) (hj:j=(b:Int)) (x y:Int) (w:World) (ha:a<n) (hb:b<n) (ci:w.cell? ⟨g,a,none⟩=some (.int .i64 x)) (cj:w.cell? ⟨g,b,none⟩=some (.int .i64 y)) :
 Calls Tryz.prog 284 #[.slice (some ⟨g,0,none⟩) n c,.int .i64 i,.int .i64 j] w λe w'=>e=.returned (.bool (decide (x<y)))/\∃m,w'=w.drewN m:=by
 grind [Wn]
structure HW (t o g c base:Nat) (l:List Int) (w:World):Prop where
 cell:w.cell? ⟨t,o,none⟩=some (.slice (some ⟨g,0,none⟩) l.length c)
 own:w.ownsRow base 3 1 (.slice (some ⟨g,0,none⟩) l.length c) l.length (bL l)
 ne:t≠g
 lt:t<w.heap.size
theorem Zz {l:List Int} {k:Nat} (hk:k<l.length):(bL l)[k]?=some (.int .i64 (at_ l k)):=by
 simp [bL,at_,List.getD_eq_getElem?_getD,hk]
section hw
variable {t o g c base:Nat} {l:List Int} {w:World}
theorem HW.at (h:HW t o g c base l w) {k:Nat} (hk:k<l.length):w.cell? ⟨g,k,none⟩=some (.int .i64 (at_ l k)):=by
 rw [h.own.cellAt k d5]
 exact Zz hk
theorem HW.drewN (h:HW t o g c base l w) (m:Nat):HW t o g c base l (w.drewN m):=⟨h.cell,h.own,h.ne,h.lt⟩
theorem HW.swap (h:HW t o g c base l w) (i j:Nat) :
 HW t o g c base (swp l i j) ((w.setCell ⟨g,i,none⟩ (.int .i64 (at_ l j))).setCell ⟨g,j,none⟩ (.int .i64 (at_ l i))):=by
 have e1:bL (swp l i j)=((bL l).set i (.int .i64 (at_ l j))).set j (.int .i64 (at_ l i)):=by
  simp [bL,swp,List.map_set]
 refine⟨?_,?_,h.ne,by simpa [World.setCell] using h.lt⟩
 ·rw [qL,World.cell?_setCell_other _ _ _ _ (λe=>h.ne (by injection e with e;exact e.symm)),World.cell?_setCell_other _ _ _ _ (λe=>h.ne (by injection e with e;exact e.symm))]
  exact h.cell
 rw [qL,e1]
 exact ((h.own.stored i _).1.stored j _).1
end hw
theorem tS (t o g c base:Nat) (l:List Int) (a b:Nat) (i j:Int) (hi:i=(a:Int)) (hj:j=(b:Int)) (w:World) (h:HW t o g c base l w) (ha:a<l.length) (hb:b<l.length) (cF:a≠b) :
 Calls Tryz.prog 285 #[.slice (some ⟨g,0,none⟩) l.length c,.int .i64 i,.int .i64 j] w λe w'=>e=.returned (.tuple #[])/\HW t o g c base (swp l a b) w'/\cL (·=g) w w':=by
 subst hi hj
 refine (Wo g l.length c a b (at_ l a) (at_ l b) w ha hb cF (h.at ha) (h.at hb) (h.own.frozenAt a) (h.own.frozenAt b)).mono λe w' ⟨he,m,hw⟩=>⟨he,?_,?_⟩
 ·rw [hw];exact (h.swap a b).drewN m
 rw [hw];exact (((cL.refl (·=g) w).setCell (p:=⟨g,a,none⟩) (.inr rfl) _).setCell (p:=⟨g,b,none⟩) (.inr rfl) _).drewN m
structure Looks (a:Addr) (V:Value):Prop where
 less:∀w:World,w.cell? a=some V->(Go.method 481 342 (.pointer (some a)) "Less").run Tryz.prog w=.ok (284,V) w
 swap:∀w:World,w.cell? a=some V->(Go.method 481 342 (.pointer (some a)) "Swap").run Tryz.prog w=.ok (285,V) w
 len:∀w:World,w.cell? a=some V->(Go.method 481 342 (.pointer (some a)) "Len").run Tryz.prog w=.ok (283,V) w
theorem looks (a:Addr) (V:Value):Looks a V:=⟨aeb a V,aec a V,af4 a V⟩
theorem acW (t o g c base:Nat) (l:List Int) (j:Nat) (w:World) (h:HW t o g c base l w) (hj:j<l.length) (hu:KG l j) (hm:l.length<=1048576) :
 Calls Tryz.prog 240 #[.iface 342 (.pointer (some ⟨t,o,none⟩)),.int .i64 j] w λe w'=>e=.returned (.tuple #[]) ∧
  ∃l',Same l l'/\Hp l'.length l'/\HW t o g c base l' w'/\cL (·=g) w w':=by
 have L:=looks ⟨t,o,none⟩ (.slice (some ⟨g,0,none⟩) l.length c)
 have nl:=Wm ⟨t,o,none⟩
 have ns:=OA ⟨t,o,none⟩
 go_enter Tryz.func240,Tryz.ntmps240
 go_wp2_with fail
 go_loopw [1] (λv wr=>∃(j:Nat) (l':List Int),v=.int .i64 j/\j<l'.length/\Same l l'/\KG l' j/\HW t o g c base l' wr/\cL (·=g) w wr) (λv _=>(intOf v).toNat)
 case atStart=>exact⟨j,l,rfl,hj,Same.refl l,hu,h,cL.refl _ _⟩
 case round=>
  obtain⟨j,l',rfl,hj',hs,hu',hw,hk⟩:=hrel
  have hc:=hw.cell
  rw [hs.len] at hc
  have LL:=L.less wr hc
  by_cases h0:j=0
  ·subst h0
   have HU:=Lib.hid hu'
   clear hu'
   go_wp2_with fail
   go_end0
   exact⟨rfl,l',hs,Ws HU.out (.inl rfl),hw,hk⟩
  have uL:1<=j:=d5
  have hj2:j<=1048576:=by have:=hs.len;omega
  have hi1:(j-1) / 2<l'.length:=d5
  have hjn:((((j:Int)-1) / 2) == (j:Int))=false:=by rw [beq_eq_false_iff_ne];omega
  have HU:=Lib.hid hu'
  clear hu'
  go_wp2_with fail
  refine (tQ g l.length c j ((j-1) / 2) _ _ rfl d5 (at_ l' j) (at_ l' ((j-1) / 2)) _ (by rw [←hs.len];exact hj') (by rw [←hs.len];exact hi1) (hw.at hj') (hw.at hi1)).mono ?_
  rintro e w1 ⟨rfl,m,rfl⟩
  have hw1:=hw.drewN m
  by_cases fX:at_ l' j<at_ l' ((j-1) / 2)
  ·have LS:=L.swap (wr.drewN m) hc
   go_wp2_with fail
   have HL:=Lib.hid hs.len
   have sw:=tS t o g c base l' ((j-1) / 2) j
   rw [hs.len] at sw
   refine (sw _ _ d5 rfl _ hw1 (by have:=HL.out;omega) (by have:=HL.out;omega) d5).mono ?_
   rintro e w2 ⟨rfl,hw2,hk2⟩
   clear sw
   go_wp2_with fail
   go_roundw
   case rel=>exact⟨(j-1) / 2,_,by go_num,by rw [qL];exact hi1,hs.trans (Same.swp hi1 hj'),acT HU.out uL hj' fX,hw2,(hk.drewN m).trans hk2⟩
   case measure=>simp [intOf];omega
  have hnl:decide (at_ l' j<at_ l' ((j-1) / 2))=false:=by simpa using fX
  go_wp2_with fail
  go_end0
  exact⟨rfl,l',hs,Ws HU.out (.inr d5),hw1,hk.drewN m⟩
theorem OC {l:List Int} {i j n k:Nat} (hi:i<l.length) (hj:j<l.length) (hin:i<n) (hjn:j<n) (hk:n<=k):at_ (swp l i j) k=at_ l k:=by
 grind [oM,sw]
theorem Wt (t o g c base n:Nat) (l:List Int) (w:World) (h:HW t o g c base l w) (hn:n<=l.length) (hd:CJ n l 0) (hm:l.length<=1048576) :
 Calls Tryz.prog 241 #[.iface 342 (.pointer (some ⟨t,o,none⟩)),.int .i64 0,.int .i64 n] w λe w'=>(∃b,e=.returned (.bool b)) ∧
  ∃l',Same l l'/\Hp n l'/\(∀k,n<=k->at_ l' k=at_ l k)/\HW t o g c base l' w'/\cL (·=g) w w':=by
 have L:=looks ⟨t,o,none⟩ (.slice (some ⟨g,0,none⟩) l.length c)
 have nl:=Wm ⟨t,o,none⟩
 have ns:=OA ⟨t,o,none⟩
 go_enter Tryz.func241,Tryz.ntmps241
 go_wp2_with fail
 go_loopw [7] (λv wr=>∃(i:Nat) (l':List Int),v=.int .i64 i/\i<=n/\Same l l'/\CJ n l' i/\Hid (∀k,n<=k->at_ l' k=at_ l k)/\HW t o g c base l' wr/\cL (·=g) w wr) (λv _=>n-(intOf v).toNat)
 case atStart=>exact⟨0,l,rfl,L4 _,Same.refl l,hd,Lib.hid (λ_ _=>rfl),h,cL.refl _ _⟩
 case round=>
  obtain⟨i,l',rfl,hin,hs,hd',Dt,hw,hk⟩:=hrel
  have hc:=hw.cell
  rw [hs.len] at hc
  have HL:=Lib.hid hs.len
  have hn1:n<=1048576:=d5
  have hnl:n<=l'.length:=by rw [HL.out];exact hn
  have HD:=Lib.hid hd'
  clear hd'
  by_cases h1:2*i+1<n
  ·have h1a:(2*(i:Int)+1)<(n:Int):=d5
   by_cases h2:2*i+2<n
   ·have h2a:(2*(i:Int)+1+1)<(n:Int):=d5
    have LL:=L.less wr hc
    go_wp2_with fail
    refine (tQ g l.length c (2*i+2) (2*i+1) _ _ d5 d5 (at_ l' (2*i+2)) (at_ l' (2*i+1)) _ d5 d5 (hw.at d5) (hw.at d5)).mono ?_
    rintro e w1 ⟨rfl,m,rfl⟩
    have hw1:=hw.drewN m
    have hk1:=hk.drewN m
    have LL:=L.less (wr.drewN m) hc
    clear hw hk
    by_cases h3:at_ l' (2*i+2)<at_ l' (2*i+1)
    ·go_wp2_with fail
     refine (tQ g l.length c (2*i+2) i _ _ d5 d5 (at_ l' (2*i+2)) (at_ l' i) _ d5 d5 (hw1.at d5) (hw1.at d5)).mono ?_
     rintro e w2 ⟨rfl,m2,rfl⟩
     have hw2:=hw1.drewN m2
     have hk2:=hk1.drewN m2
     rw [World.drewN_drewN] at hw2 hk2
     by_cases h4:at_ l' (2*i+2)<at_ l' i
     ·have LS:=L.swap _ (hw2.cell.trans (by rw [HL.out]))
      go_wp2_with fail
      have sw:=tS t o g c base l' i (2*i+2)
      rw [hs.len] at sw
      refine (sw _ _ rfl d5 _ hw2 d5 d5 d5).mono ?_
      rintro e w3 ⟨rfl,hw3,hk3⟩
      clear sw
      go_wp2_with fail
      go_roundw
      case rel=>exact⟨2*i+2,_,by go_num,d5,hs.trans (Same.swp d5 d5),EM HD.out d5 d5 hnl d5 (λ_=>d5) h4,Lib.hid (λk hk=>(OC d5 d5 d5 d5 hk).trans (Dt.out k hk)),hw3,hk2.trans hk3⟩
      case measure=>simp [intOf];omega
     have h4a:decide (at_ l' (2*i+2)<at_ l' i)=false:=by simpa using h4
     go_wp2_with fail
     go_ret
     exact⟨⟨_,rfl⟩,l',hs,Ds HD.out (λ_=>d5) (λ_=>d5),Dt.out,hw2,hk2⟩
    have h3a:decide (at_ l' (2*i+2)<at_ l' (2*i+1))=false:=by simpa using h3
    go_wp2_with fail
    refine (tQ g l.length c (2*i+1) i _ _ d5 d5 (at_ l' (2*i+1)) (at_ l' i) _ d5 d5 (hw1.at d5) (hw1.at d5)).mono ?_
    rintro e w2 ⟨rfl,m2,rfl⟩
    have hw2:=hw1.drewN m2
    have hk2:=hk1.drewN m2
    rw [World.drewN_drewN] at hw2 hk2
    by_cases h4:at_ l' (2*i+1)<at_ l' i
    ·have LS:=L.swap _ (hw2.cell.trans (by rw [HL.out]))
     go_wp2_with fail
     have sw:=tS t o g c base l' i (2*i+1)
     rw [hs.len] at sw
     refine (sw _ _ rfl d5 _ hw2 d5 d5 d5).mono ?_
     rintro e w3 ⟨rfl,hw3,hk3⟩
     clear sw
     go_wp2_with fail
     go_roundw
     case rel=>exact⟨2*i+1,_,by go_num,d5,hs.trans (Same.swp d5 d5),EM HD.out d5 d5 hnl d5 (λ_=>d5) h4,Lib.hid (λk hk=>(OC d5 d5 d5 d5 hk).trans (Dt.out k hk)),hw3,hk2.trans hk3⟩
     case measure=>simp [intOf];omega
    have h4a:decide (at_ l' (2*i+1)<at_ l' i)=false:=by simpa using h4
    go_wp2_with fail
    go_ret
    exact⟨⟨_,rfl⟩,l',hs,Ds HD.out (λ_=>d5) (λ_=>d5),Dt.out,hw2,hk2⟩
   have h2a:decide ((2*(i:Int)+1+1)<(n:Int))=false:=by simp;omega
   have hw1:=hw
   have hk1:=hk
   have LL:=L.less wr hc
   clear hw hk
   go_wp2_with fail
   refine (tQ g l.length c (2*i+1) i _ _ d5 d5 (at_ l' (2*i+1)) (at_ l' i) _ d5 d5 (hw1.at d5) (hw1.at d5)).mono ?_
   rintro e w2 ⟨rfl,m2,rfl⟩
   have hw2:=hw1.drewN m2
   have hk2:=hk1.drewN m2
   by_cases h4:at_ l' (2*i+1)<at_ l' i
   ·have LS:=L.swap _ (hw2.cell.trans (by rw [HL.out]))
    go_wp2_with fail
    have sw:=tS t o g c base l' i (2*i+1)
    rw [hs.len] at sw
    refine (sw _ _ rfl d5 _ hw2 d5 d5 d5).mono ?_
    rintro e w3 ⟨rfl,hw3,hk3⟩
    clear sw
    go_wp2_with fail
    go_roundw
    case rel=>exact⟨2*i+1,_,by go_num,d5,hs.trans (Same.swp d5 d5),EM HD.out d5 d5 hnl d5 (λ_=>d5) h4,Lib.hid (λk hk=>(OC d5 d5 d5 d5 hk).trans (Dt.out k hk)),hw3,hk2.trans hk3⟩
    case measure=>simp [intOf];omega
   have h4a:decide (at_ l' (2*i+1)<at_ l' i)=false:=by simpa using h4
   go_wp2_with fail
   go_ret
   exact⟨⟨_,rfl⟩,l',hs,Ds HD.out (λ_=>d5) (λ_=>d5),Dt.out,hw2,hk2⟩
  have h1a:((n:Int)<=2*(i:Int)+1):=d5
  go_wp2_with fail
  go_ret
  exact⟨⟨_,rfl⟩,l',hs,Ds HD.out (λh=>KB h h1) (λh=>KB h (by omega)),Dt.out,hw,hk⟩
theorem KH (g n c i:Nat) (x:Int) (w:World) (hi:i<n) (ci:w.cell? ⟨g,i,none⟩=some (.int .i64 x)) (fi:w.frozen? ⟨g,i,none⟩=false) :
 Calls Tryz.prog 285 #[.slice (some ⟨g,0,none⟩) n c,.int .i64 i,.int .i64 i] w λe w'=>e=.returned (.tuple #[])/\∃m,w'=((w.setCell ⟨g,i,none⟩ (.int .i64 x)).setCell ⟨g,i,none⟩ (.int .i64 x)).drewN m:=by
 have hi':(i:Int)<(n:Int):=d5
 go_enter Tryz.func285,Tryz.ntmps285
 go_wp2_with fail
 go_region
 go_end0
 exact⟨rfl,1,rfl⟩
theorem KI (t o g c base n:Nat) (l:List Int) (hl:l.length=n+1) (j:Int) (hj:j=(n:Int)) (w:World) (h:HW t o g c base l w) :
 Calls Tryz.prog 285 #[.slice (some ⟨g,0,none⟩) (n+1) c,.int .i64 0,.int .i64 j] w λe w'=>e=.returned (.tuple #[])/\HW t o g c base (swp l 0 n) w'/\cL (·=g) w w':=by
 subst hj
 by_cases h0:n=0
 ·subst h0
  have:=KH g 1 c 0 (at_ l 0) w d5 (h.at d5) (h.own.frozenAt 0)
  refine this.mono λe w' ⟨he,m,hw⟩=>⟨he,?_,?_⟩
  ·rw [hw];exact (h.swap 0 0).drewN m
  rw [hw];exact (((cL.refl (·=g) w).setCell (p:=⟨g,0,none⟩) (.inr rfl) _).setCell (p:=⟨g,0,none⟩) (.inr rfl) _).drewN m
 grind [tS]
theorem HW.pop {t o g c base n:Nat} {l:List Int} {w:World} (h:HW t o g c base l w) (hl:l.length=n+1):w.ownsRow base 3 1 (.slice (some ⟨g,0,none⟩) n c) n (bL (l.take n)):=by
 have e:bL l=bL (l.take n)++bL (l.drop n):=by simp only [bL,←aiM,List.take_append_drop]
 have h1:=h.own
 rw [e,hl] at h1
 exact ownsRow_pop (by simp [bL];omega) h1
theorem HW.cap {t o g c base:Nat} {l:List Int} {w:World} (h:HW t o g c base l w):l.length<=c:=by
 rcases h.own.2 with ⟨e,_⟩|⟨g',cap,cur,e,_,_,r,_⟩
 all_goals grind
theorem ZA (t o g c base n:Nat) (l:List Int) (w:World) (h:HW t o g c base l w) (hl:l.length=n+1) (hp:Hp (n+1) l) (hi:EL l) (hm:n+1<=1048576) (hf:w.frozen? ⟨t,o,none⟩=false) :
 Calls Tryz.prog 239 #[.iface 342 (.pointer (some ⟨t,o,none⟩))] w λe w'=>e=.returned (.iface 3 (.int .i64 (at_ l 0))) ∧
  ∃l' w1,l'.length=n/\Hp n l'/\EL l'/\(∀x,x∈l'↔x∈l/\x≠at_ l 0)/\w1.ownsRow base 3 1 (.slice (some ⟨g,0,none⟩) n c) n (bL l')/\cL (·=g) w w1 ∧
    w'=w1.setCell ⟨t,o,none⟩ (.slice (some ⟨g,0,none⟩) n c):=by
 have L:=looks ⟨t,o,none⟩ (.slice (some ⟨g,0,none⟩) l.length c)
 have nn:=abQ ⟨t,o,none⟩
 have ns:=OA ⟨t,o,none⟩
 have np:=af6 ⟨t,o,none⟩
 have mp:=af5 ⟨t,o,none⟩
 have LN:=L.len w h.cell
 have LS:=L.swap w h.cell
 have HL:=Lib.hid hl
 rw [hl] at LN LS
 clear hl
 go_enter Tryz.func239,Tryz.ntmps239
 go_wp2_with fail
 refine (OB _ _ _ _).mono ?_
 rintro e w0 ⟨rfl,rfl⟩
 go_wp2_with fail
 refine (KI t o g c base n l HL.out _ d5 _ h).mono ?_
 rintro e w1 ⟨rfl,hw1,hk1⟩
 go_wp2_with fail
 have hd:=Wt t o g c base n (swp l 0 n) w1 hw1 (by rw [qL,HL.out];omega) (Ud hp HL.out) (by rw [qL,HL.out];exact hm)
 refine (hd.mono ?_)
 rintro e w2 ⟨⟨bb,rfl⟩,l',hs,dh,Dt,hw2,hk2⟩
 clear hd
 have jX:l'.length=n+1:=by rw [hs.len,qL,HL.out]
 have hcell:=hw2.cell
 rw [jX] at hcell
 have hcap:=hw2.cap
 have htlt:=h.lt
 have hf2:w2.frozen? ⟨t,o,none⟩=false:=by
  rw [(hk1.trans hk2).frozen (p:=⟨t,o,none⟩) htlt h.ne]
  exact hf
 have hlast:at_ l' n=at_ l 0:=by
  rw [Dt n (N6 _),oM (by rw [HL.out];omega) (by rw [HL.out];omega)]
  simp [sw]
 have hx:=hw2.at (k:=n) d5
 rw [hlast] at hx
 have Ue:=Lib.hid jX
 have af7:=Lib.hid hlast
 clear jX hlast
 go_wp2_with fail
 refine (Zw t o g n c (at_ l 0) w2 (by have:=Ue.out;omega) hcell hf2 hx hm).mono ?_
 rintro e w3 ⟨rfl,rfl⟩
 go_wp2_with fail
 go_ret
 have sm:=(Same.swp (l:=l) (i:=0) (j:=n) (by rw [HL.out];omega) (by rw [HL.out];omega)).trans hs
 refine⟨rfl,l'.take n,w2,by simp [Ue.out],acV dh,Zy (sm.inj hi),λx=>?_,hw2.pop Ue.out,hk1.trans hk2,rfl⟩
 rw [acU Ue.out (sm.inj hi),sm.mem,af7.out]
theorem GU (l:List Int) (x:Int):bL l++[.int .i64 x]=bL (l++[x]):=by simp [bL]
theorem Wu (t o base:Nat) (v:Value) (l:List Int) (x:Int) (w:World) (ht:w.cell? ⟨t,o,none⟩=some v) (hf:w.frozen? ⟨t,o,none⟩=false) (qt:w.ownsRow base 3 1 v l.length (bL l))
 (cF:v.ownBlock≠some t) (hm:l.length+1<=1048576) (hbase:base<=w.heap.size) (hp:Hp l.length l) (htl:t<w.heap.size) :
 Calls Tryz.prog 237 #[.iface 342 (.pointer (some ⟨t,o,none⟩)),.iface 3 (.int .i64 x)] w λe w'=>e=.returned (.tuple #[]) ∧
  ∃g c l',Same (l++[x]) l'/\Hp l'.length l'/\HW t o g c base l' w'/\(v.ownBlock=some g\/w.heap.size<=g) ∧
    ∃w1,cL (λk=>v.ownBlock=some k) w w1/\cL (·=g) (w1.setCell ⟨t,o,none⟩ (.slice (some ⟨g,0,none⟩) (l.length+1) c)) w':=by
 have nn:=abQ ⟨t,o,none⟩
 have np:=aee ⟨t,o,none⟩
 have mp:=aed ⟨t,o,none⟩
 go_enter Tryz.func237,Tryz.ntmps237
 go_wp2_with fail
 refine (Wr t o base l.length v (bL l) x w ht hf qt cF hm hbase).mono ?_
 rintro e w0 ⟨rfl,g,c,w1,hown1,hg1,Ub,rfl⟩
 have hk1:cL (λk=>v.ownBlock=some k) w w1:=(cL.refl _ _).grown hg1 (λk hk=>.inr hk)
 have hgt:t≠g:=by
  rintro rfl
  rcases Ub with h|h
  ·exact cF h
  omega
 have ht1:w1.cell? ⟨t,o,none⟩=some v:=(hk1.cell (p:=⟨t,o,none⟩) htl cF).trans ht
 have HW1:HW t o g c base (l++[x]) (w1.setCell ⟨t,o,none⟩ (.slice (some ⟨g,0,none⟩) (l.length+1) c)):=by
  refine⟨?_,?_,hgt,by simpa [World.setCell] using aiq htl hk1.size⟩
  ·rw [World.cell?_setCell_same _ _ _ ht1];simp
  rw [T3,aiW,←GU]
  refine cL.ownsRow (S:=(·=t)) ((cL.refl (·=t) w1).setCell (p:=⟨t,o,none⟩) (.inr rfl) _) hown1 ?_
  intro k hk e
  simp [Value.ownBlock] at hk
  omega
 have hc:=HW1.cell
 rw [T3,aiW] at hc
 generalize hW:w1.setCell ⟨t,o,none⟩ (.slice (some ⟨g,0,none⟩) (l.length+1) c)=w2 at *
 have LN:=(looks ⟨t,o,none⟩ (.slice (some ⟨g,0,none⟩) (l.length+1) c)).len w2 hc
 have HWe:=Lib.hid hW
 clear hW ht1 hown1 qt hg1
 go_wp2_with fail
 refine (OB _ _ _ _).mono ?_
 rintro e w3 ⟨rfl,rfl⟩
 go_wp2_with fail
 have hu:=acW t o g c base (l++[x]) l.length w3 HW1 nh (Zx hp x) (by simpa using hm)
 refine hu.mono ?_
 rintro e w4 ⟨rfl,l',hs,dh,hw4,hk4⟩
 go_wp2_with fail
 go_end0
 exact⟨rfl,g,c,l',hs,dh,hw4,Ub,w1,hk1,by rw [HWe.out];exact hk4⟩
end
end Go.Proofs.YtfececghhgeapaaGreatDoor
section
namespace Go.Proofs.YtfececghhgeapaaGreatDoor.aH
open bw
variable {V U:Type}
abbrev bC (V:Type):=List (Int×V)
def aY (us:bC V):List Int:=us.map (·.1)
def get (us:bC V) (h:Int):Option V:=(us.find? (λp=>p.1 == h)).map (·.2)
def dM:List Int->Prop:=List.Pairwise (· < ·)
def kS:Int->List Int->Int
 |h,[]=>h
 |h,k::r=>if k=h then kS (h+1) r else h
def aR (us:bC V):Int:=kS 1 (aY us)
def ins (h:Int) (v:V):bC V->bC V
 |[]=>[(h,v)]
 |p::r=>if h<p.1 then (h,v)::p::r else p::ins h v r
def del (h:Int) (us:bC V):bC V:=us.filter (λp=>p.1 != h)
def ah2 (h:Int) (v:V) (us:bC V):bC V:=us.map (λp=>if p.1 == h then (h,v) else p)
structure TI (next:Int) (l:List Int) (us:bC V):Prop where
 fU:dM (aY us)
 pos:∀h∈aY us,1<=h/\h<next
 back:∀h∈l,1<=h/\h<next/\h∉aY us
 all:∀h,1<=h->h<next->h∈aY us\/h∈l
 count:(us.length:Int)+l.length=next-1
 heap:Hp l.length l
 inj:EL l
theorem keys_cons (p:Int×V) (us:bC V):aY (p::us)=p.1::aY us:=rfl
theorem keys_map (f:V->U) (us:bC V):aY (us.map λp=>(p.1,f p.2))=aY us:=by simp [aY]
theorem get_none {us:bC V} {h:Int}:get us h=none↔h∉aY us:=by
 unfold get aY
 rw [Option.map_eq_none_iff,List.find?_eq_none]
 grind
theorem get_some {us:bC V} {h:Int} {v:V} (e:get us h=some v):h∈aY us:=by
 apply aiy
 intro hn
 rw [get_none.2 hn] at e;cases e
theorem get_map (f:V->U) (us:bC V) (h:Int):get (us.map λp=>(p.1,f p.2)) h=(get us h).map f:=by
 unfold get
 rw [List.find?_map]
 simp only [Function.comp_def,Option.map_map]
theorem rN (h:Int) (v:V) (us:bC V) (x:Int):x∈aY (ins h v us)↔x=h\/x∈aY us:=by
 induction us with
 |nil=>simp [ins,aY]
 |cons p r ih=>
   unfold ins
   split
   ·simp [aY]
   rw [keys_cons,keys_cons,T8,T8,ih]
   grind
theorem zW {h:Int} {v:V} {us:bC V} (hr:dM (aY us)) (hn:h∉aY us):dM (aY (ins h v us)):=by
 induction us with
 |nil=>simp [ins,aY,dM]
 |cons p r ih=>
   unfold dM at *
   rw [keys_cons,ail] at hr
   rw [keys_cons,T8,not_or] at hn
   unfold ins
   split
   ·rename_i fX
    rw [keys_cons,keys_cons,ail,ail]
    grind
   rename_i fX
   rw [keys_cons,ail]
   refine⟨λx hx=>?_,ih hr.2 hn.2⟩
   rcases (rN h v r x).1 hx with e|e
   ·rw [e];have:=hn.1;omega
   exact hr.1 x e
theorem tj {h:Int} {v:V} {us:bC V} (hn:h∉aY us) (x:Int):get (ins h v us) x=if x=h then some v else get us x:=by
 induction us with
 |nil=>
   by_cases e:x=h
   ·subst e;simp [ins,get]
   simp [ins,get,e,Ne.symm e]
 |cons p r ih=>
   rw [keys_cons,T8,not_or] at hn
   unfold ins
   grind [get]
theorem kR (h:Int) (v:V) (us:bC V):(ins h v us).length=us.length+1:=by
 induction us with
 |nil=>rfl
 |cons p r ih=>unfold ins;split<;>simp [ih]
theorem OD {h:Int} {v:V} {us:bC V} (hl:∀x∈aY us,x<h):ins h v us=us++[(h,v)]:=by
 induction us with
 |nil=>rfl
 |cons p r ih=>
   rw [keys_cons] at hl
   have h1:=hl p.1 nh
   unfold ins
   grind
theorem KJ (f:V->U) (h:Int) (v:V) (us:bC V):(ins h v us).map (λp=>(p.1,f p.2))=ins h (f v) (us.map λp=>(p.1,f p.2)):=by
 induction us with
 |nil=>rfl
 |cons p r ih=>unfold ins;simp only [aiB];split<;>simp_all
theorem KL (f:V->U) (h:Int) (us:bC V):(del h us).map (λp=>(p.1,f p.2))=del h (us.map λp=>(p.1,f p.2)):=by
 unfold del;rw [List.filter_map];rfl
theorem uD (h:Int) (us:bC V):aY (del h us)=(aY us).filter (· != h):=by
 unfold aY del;rw [List.filter_map];rfl
theorem wU (h:Int) (us:bC V) (x:Int):get (del h us) x=if x=h then none else get us x:=by
 by_cases e:x=h
 ·subst e
  rw [t8 rfl,get_none,uD]
  simp
 rw [nw e]
 unfold get del
 grind
theorem tq {h:Int} {us:bC V} (hr:dM (aY us)) (hm:h∈aY us):(del h us).length+1=us.length:=by
 induction us with
 |nil=>simp [aY] at hm
 |cons p r ih=>
   unfold dM at *
   rw [keys_cons,ail] at hr
   unfold del at ih ⊢
   rw [List.filter_cons]
   by_cases e:p.1=h
   ·have:r.filter (λq=>q.1 != h)=r:=by
     rw [List.filter_eq_self]
     intro q hq
     have:=hr.1 q.1 (List.mem_map_of_mem hq)
     simp;omega
    simp [e,this]
   rw [keys_cons,T8] at hm
   grind
theorem qM:∀(ks:List Int) (h:Int),dM ks->(∀x∈ks,h<=x)->h<=kS h ks/\kS h ks∉ks/\∀x,h<=x->x<kS h ks->x∈ks
 |[],h,_,_=>⟨Int.le_refl _,by simp [kS],λx h1 h2=>by simp [kS] at h2;omega⟩
 |k::r,h,hr,hge=>by
   unfold dM at hr
   rw [ail] at hr
   unfold kS
   by_cases e:k=h
   ·rw [t8 e]
    obtain⟨i1,i2,i3⟩:=qM r (h+1) hr.2 (λx hx=>by have:=hr.1 x hx;omega)
    refine⟨d5,?_,λx h1 h2=>?_⟩
    ·rw [T8,not_or];exact⟨d5,i2⟩
    by_cases e2:x=h
    ·rw [e2,←e];simp
    exact T4 _ (i3 x d5 h2)
   rw [nw e]
   refine⟨Int.le_refl _,?_,λx h1 h2=>d5⟩
   rw [T8,not_or]
   refine⟨Ne.symm e,λhm=>?_⟩
   have h1:=hr.1 h hm
   have h2:=hge k nh
   omega
theorem EN {us:bC V} (hr:dM (aY us)) (hp:∀x∈aY us,1<=x) {h:Int} (h1:1<=h) (hn:h∉aY us) (j3:∀x,1<=x->x<h->x∈aY us):aR us=h:=by
 obtain⟨i1,i2,i3⟩:=qM (aY us) 1 hr hp
 grind [aR]
theorem TI.empty:TI 1 [] ([]:bC V):=
 ⟨List.Pairwise.nil,by simp [aY],nh,λh h1 h2=>d5,rfl,λi h1 h2=>by simp at h2,λa b h1=>by simp at h1⟩
theorem TI.Jr {next:Int} {us:bC V} (h:TI next [] us):aR us=next:=by
 have hc:=h.count
 simp at hc
 refine EN h.fU (λx hx=>(h.pos x hx).1) d5 (λhm=>?_) (λx h1 h2=>(h.all x h1 h2).resolve_right nh)
 have:=(h.pos _ hm).2;omega
theorem TI.ZB {next:Int} {us:bC V} (h:TI next [] us) (v:V):TI (next+1) [] (ins next v us):=by
 have hc:=h.count
 simp at hc
 have hn:next∉aY us:=λhm=>by have:=(h.pos _ hm).2;omega
 refine⟨zW h.fU hn,λx hx=>?_,nh,λx h1 h2=>?_,by rw [kR];simp;omega,λi h1 h2=>by simp at h2,λa b h1=>by simp at h1⟩
 ·rcases (rN next v us x).1 hx with e|e
  ·omega
  have:=h.pos x e;omega
 by_cases e:x=next
 ·exact .inl ((rN next v us x).2 (.inl e))
 exact .inl ((rN next v us x).2 (.inr ((h.all x h1 d5).resolve_right nh)))
theorem TI.Js {next:Int} {l:List Int} {us:bC V} (h:TI next l us) (hl:0<l.length):aR us=at_ l 0:=by
 have hm:at_ l 0∈l:=zV.2 ⟨0,hl,rfl⟩
 obtain⟨b1,b2,b3⟩:=h.back _ hm
 refine EN h.fU (λx hx=>(h.pos x hx).1) b1 b3 (λx h1 h2=>(h.all x h1 d5).resolve_right (λhx=>?_))
 obtain⟨k,hk,e⟩:=zV.1 hx
 have:=bw.aR h.heap k hk
 omega
theorem TI.ZC {next:Int} {l l':List Int} {us:bC V} (h:TI next l us) (hl:0<l.length) (v:V) (jX:l'.length+1=l.length) (hp:Hp l'.length l') (hi:EL l') (hm:∀x,x∈l'↔x∈l/\x≠at_ l 0) :
 TI next l' (ins (at_ l 0) v us):=by
 have h0:at_ l 0∈l:=zV.2 ⟨0,hl,rfl⟩
 obtain⟨b1,b2,b3⟩:=h.back _ h0
 have hc:=h.count
 refine⟨zW h.fU b3,λx hx=>?_,λx hx=>?_,λx h1 h2=>?_,by rw [kR];push_cast;omega,hp,hi⟩
 ·rcases (rN _ v us x).1 hx with e|e
  ·omega
  exact h.pos x e
 ·have hx':=(hm x).1 hx
  have:=h.back x hx'.1
  refine⟨this.1,this.2.1,λhk=>?_⟩
  rcases (rN _ v us x).1 hk with e|e
  ·exact hx'.2 e
  exact this.2.2 e
 by_cases e:x=at_ l 0
 ·exact .inl ((rN _ v us x).2 (.inl e))
 rcases h.all x h1 h2 with h3|h3
 ·exact .inl ((rN _ v us x).2 (.inr h3))
 exact .inr ((hm x).2 ⟨h3,e⟩)
theorem TI.drop {next h0:Int} {l l':List Int} {us:bC V} (h:TI next l us) (hm:h0∈aY us) (hs:Same (l++[h0]) l') (hp:Hp l'.length l'):TI next l' (del h0 us):=by
 obtain⟨p1,p2⟩:=h.pos _ hm
 have hn:h0∉l:=λhx=>(h.back _ hx).2.2 hm
 have jX:=hs.len
 rw [T3,aiW] at jX
 have hc:=h.count
 have hd:=tq h.fU hm
 refine⟨?_,λx hx=>?_,λx hx=>?_,λx h1 h2=>?_,d5,hp,hs.inj ?_⟩
 ·rw [uD];exact ai5 _ h.fU
 ·rw [uD,List.mem_filter] at hx
  exact h.pos x hx.1
 ·rw [hs.mem,air,aiD] at hx
  rw [uD,List.mem_filter]
  rcases hx with hx|hx
  ·have:=h.back x hx
   exact⟨this.1,this.2.1,λhk=>this.2.2 hk.1⟩
  grind
 ·rw [uD,List.mem_filter,hs.mem,air,aiD]
  rcases h.all x h1 h2 with h3|h3
  all_goals grind
 intro a b ha hb e
 rw [T3,aiW] at ha hb
 have g:∀k,k<l.length->at_ (l++[h0]) k=at_ l k:=λk hk=>by
  grind [at_]
 have g2:at_ (l++[h0]) l.length=h0:=by grind [at_]
 have inl:∀k,k<l.length->at_ l k≠h0:=by grind [zV]
 by_cases ha':a<l.length
 ·by_cases hb':b<l.length
  ·rw [g a ha',g b hb'] at e;exact h.inj a b ha' hb' e
  grind
 grind
end Go.Proofs.YtfececghhgeapaaGreatDoor.aH
end
namespace Go.Proofs.YtfececghhgeapaaGreatDoor
section
open Go.RowKit bw aH Go.Maps
def dw (us:bC Value):Lit->Option Value
 |.int .i64 h=>aH.get us h
 |_=>none
theorem KM {us:bC Value} {h:Int} (hn:h∉aY us) (v:Value):pZ (dw us) (.int .i64 h) (some v)=dw (ins h v us):=by
 funext x
 unfold pZ dw
 cases x with
 |int k n=>
   by_cases hk:k=.i64
   ·subst hk
    simp only [Lit.sameKey,true_and,decide_eq_true_eq]
    rw [tj hn]
   have e:(Lit.int k n).sameKey (.int .i64 h)=false:=by simp [Lit.sameKey,hk]
   grind
 |_=>rfl
theorem Sg {us:bC Value} {h:Int}:pZ (dw us) (.int .i64 h) none=dw (del h us):=by
 funext x
 unfold pZ dw
 cases x with
 |int k n=>
   by_cases hk:k=.i64
   ·subst hk
    simp only [Lit.sameKey,true_and,decide_eq_true_eq]
    rw [wU]
   grind
 |_=>rfl
structure agS (TT:TypeId) (t m base:Nat) (v:Value) (l:List Int) (next most aL:Int) (us:bC Value) (w:World):Prop where
 aD:w.heap[t]?=some (.cells #[.int .i64 most,.int .i64 aL,.map (some m),v,.int .i64 next] TT (0,0))
 map:kN Tryz.prog 3 w m (dw us) us.length
 own:w.ownsRow base 3 1 v l.length (bL l)
 ti:TI next l us
 Bp:(us.length:Int)<=most
 Bq:most<=1024
 Br:next<=most+1
 tt:TT≠3
 bt:base<=t
 bm:base<=m
 Du:0<=aL/\aL<=1024
def Tab (TT:TypeId) (t m base:Nat) (row:Option Nat) (most aL:Int) (us:bC Value) (w:World):Prop:=
 ∃v l next,agS TT t m base v l next most aL us w/\v.ownBlock=row
section tab
variable {TT:TypeId} {t m base:Nat} {v:Value} {l:List Int} {next most aL:Int} {us:bC Value} {w w':World} {row:Option Nat}
end tab
theorem aU.ofB {P:Program} {β:Bs} {f:FuncId} {args:Array Value} {pre:List HP} {post:Value->List HP->Prop}
 (h:∀F w,(Proofs.YtfececghhgeapaaGreatDoor.gy pre).h F w->Calls P f args w λe w'=>∃v l,e=.returned v/\post v l/\∃F',(Proofs.YtfececghhgeapaaGreatDoor.gy l).h F' w'/\Step F w F' w'):aU P β f args pre post:=by
 intro R w hS
 have h1:aP β ([.abs (Proofs.YtfececghhgeapaaGreatDoor.gy pre)]++[.abs R]) w:=aP.turn (aP.turn hS).gy
 have h2:aU P β f args [.abs (Proofs.YtfececghhgeapaaGreatDoor.gy pre)] (λv l=>∃l0,post v l0/\l=[.abs (Proofs.YtfececghhgeapaaGreatDoor.gy l0)]):=
  aU.of1 (λF w hF=>(h F w hF).mono λ_ _ ⟨v,l,e,hp,hF'⟩=>⟨v,.abs (Proofs.YtfececghhgeapaaGreatDoor.gy l),e,⟨l,hp,rfl⟩,hF'⟩)
 refine (h2 R w h1).mono ?_
 rintro e w' ⟨v,l,he,⟨l0,hp,rfl⟩,yP⟩
 exact⟨v,l0,he,hp,aP.turn (aP.turn yP).rX⟩
theorem Nv {p q:HP} {F:Fp} {w:World}:(gy [p,q]).h F w↔∃F1 F2,p.h F1 w/\q.h F2 w/\Apart F1 F2/\∀k,F k↔F1 k\/F2 k:=by
 constructor
 ·rintro⟨φ,h1,h2,h3⟩
  refine⟨φ 0,φ 1,h1 0 p rfl,h1 1 q rfl,h2 0 1 nh nh d8,λk=>(h3 k).trans ⟨λ⟨i,hi,hk⟩=>?_,λh=>?_⟩⟩
  all_goals grind
 rintro⟨F1,F2,h1,h2,h3,h4⟩
 refine⟨λi=>if i=0 then F1 else F2,λi x hx=>?_,λi j hi hj cF=>?_,λk=>(h4 k).trans ⟨λh=>?_,λ⟨i,hi,hk⟩=>?_⟩⟩
 ·grind
 ·grind [gy,Apart]
 ·rcases h with h|h
  ·exact⟨0,nh,h⟩
  exact⟨1,nh,h⟩
 grind
theorem aP.af8 {β:Bs} {l:List HP} {w:World} {A:eG} {ι:Type} {Φ:ι->Prop} {L:ι->List HP} (h:aP β (l++[.abs A]) w) (hA:∀F,A.h F w->∃i,Φ i/\(Proofs.YtfececghhgeapaaGreatDoor.gy (L i)).h F w):∃i,Φ i/\aP β (l++L i) w:=by
 obtain⟨F,hF⟩:=h.get (i:=l.length) (p:=.abs A) nh
 have h0:=h
 obtain⟨ho,φ,h1,h2,h3⟩:=h
 obtain⟨i,hi,hB⟩:=hA _ (h1 l.length (.abs A) nh)
 refine⟨i,hi,aP.rX ⟨ho,φ,λj p hp=>?_,λj hj=>h2 j (by simpa using hj),λa b ha hb=>h3 a b (by simpa using ha) (by simpa using hb)⟩⟩
 by_cases e:j<l.length
 ·grind
 have hj:j=l.length:=by have:=dH hp;simp at this;omega
 subst hj
 simp at hp
 subst hp
 exact hB
theorem aP.aef {β:Bs} {l R:List HP} {w:World} {A:eG} (h:aP β (l++R) w) (hA:∀F,(Proofs.YtfececghhgeapaaGreatDoor.gy R).h F w->A.h F w):aP β (l++[.abs A]) w:=by
 obtain⟨ho,φ,h1,h2,h3⟩:=h.gy
 refine⟨ho,φ,λj p hp=>?_,λj hj=>h2 j (by simpa using hj),λa b ha hb=>h3 a b (by simpa using ha) (by simpa using hb)⟩
 by_cases e:j<l.length
 ·grind
 have hj:j=l.length:=by have:=dH hp;simp at this;omega
 subst hj
 simp at hp
 subst hp
 exact hA _ (h1 l.length (.abs (Proofs.YtfececghhgeapaaGreatDoor.gy R)) nh)
section rules
variable {P:Program} {β:Bs} {N:fP} {ops:Array Oper} {k:Nat} {fr:Fr} {ay:List HP} {Q:Post} {c:Code} {e:Exit}
theorem av.KN {ι:Type} {Φ:ι->Prop} {hp:ι->List HP} (h:∀w,aP β ay w->∃i,Φ i/\aP β (hp i) w) (K:∀i,Φ i->av P β N c fr (hp i) Q):av P β N c fr ay Q:=λar w hS=>let ⟨i,hi,gG⟩:=h w hS;K i hi ar w gG
end rules
theorem Eb {w:World} {t j:Nat} {cs:List Value} {T:TypeId} {u:Value} (h:w.heap[t]?=some (.cells ⟨cs⟩ T (0,0))):(w.setCell ⟨t,j,none⟩ u).heap[t]?=some (.cells ⟨cs.set j u⟩ T (0,0)):=by
 simp [World.setCell,Array.getElem?_modify,h,Array.setIfInBounds_def]
 exact λh=>(List.set_eq_of_length_le h).symm
theorem aeg {β:Bs} {T:TypeId} {a b c e:Value} {t g cap n:Nat} {l:List Int} (hl:l.length=n+1) (hp:Hp (n+1) l) (hi:EL l) (hm:n+1<=1048576) :
 aU Tryz.prog β 239 #[.iface 342 (.pointer (some ⟨t,3,none⟩))] [.aD t [a,b,c,.slice (some ⟨g,0,none⟩) l.length cap,e] T,.abs (aI 3 1 (some ⟨g,0,none⟩) l.length cap (bL l))]
  (λv r=>v=.iface 3 (.int .i64 (at_ l 0))/\∃l':List Int,l'.length=n/\Hp n l'/\EL l'/\(∀x,x∈l'↔x∈l/\x≠at_ l 0)/\r=[.aD t [a,b,c,.slice (some ⟨g,0,none⟩) n cap,e] T,.abs (aI 3 1 (some ⟨g,0,none⟩) n cap (bL l'))]):=by
 refine aU.ofB (λF w h=>?_)
 obtain⟨F1,F2,⟨h1,h2⟩,hr,hap,hF⟩:=Nv.1 h
 have hr:(aI 3 1 (some ⟨g,0,none⟩) l.length cap (bL l)).h F2 w:=hr
 obtain⟨hr1,hr2⟩:=hr
 have hg:F2 g:=(hr2 g).2 rfl
 have cF:t≠g:=λe=>hap t ((h2 t).2 rfl) (e ▸ hg)
 have hc:w.cell? ⟨t,3,none⟩=some (.slice (some ⟨g,0,none⟩) l.length cap)/\w.frozen? ⟨t,3,none⟩=false:=lu h1 rfl rfl rfl
 have hW:HW t 3 g cap 0 l w:=⟨hc.1,hr1,cF,lt_of_some h1⟩
 refine (ZA t 3 g cap 0 n l w hW hl hp hi hm hc.2).mono ?_
 rintro e' w' ⟨rfl,l',w1,g1,g2,g3,g4,g5,g6,rfl⟩
 have h1':w1.heap[t]?=some (.cells ⟨[a,b,c,.slice (some ⟨g,0,none⟩) l.length cap,e]⟩ T (0,0)):=(g6.block t (lt_of_some h1) (λe=>cF e)).trans h1
 have hks:cL (·=t) w1 (w1.setCell ⟨t,3,none⟩ (.slice (some ⟨g,0,none⟩) n cap)):=(cL.refl (·=t) w1).setCell (p:=⟨t,3,none⟩) (.inr rfl) _
 refine⟨_,_,rfl,⟨rfl,l',g1,g2,g3,g4,rfl⟩,F,Nv.2 ⟨F1,F2,⟨Eb h1',h2⟩,⟨hks.ownsRow g5 (λk hk e=>?_),λk=>?_⟩,hap,hF⟩,⟨((g6.mono (S':=F) (λk _ e=>(hF k).2 (.inr (e ▸ hg)))).trans (hks.mono (λk _ e=>(hF k).2 (.inl ((h2 k).2 e))))),λ_ h=>.inl h⟩⟩
 ·cases hk;exact cF e.symm
 rw [hr2 k];simp [Value.ownBlock]
theorem acX {β:Bs} {T:TypeId} {a b c e:Value} {t cap:Nat} {A:Option Addr} {l:List Int} (x:Int) (hp:Hp l.length l) (hm:l.length+1<=1048576) :
 aU Tryz.prog β 237 #[.iface 342 (.pointer (some ⟨t,3,none⟩)),.iface 3 (.int .i64 x)] [.aD t [a,b,c,.slice A l.length cap,e] T,.abs (aI 3 1 A l.length cap (bL l))]
  (λv r=>v=.tuple #[]/\∃(g c':Nat) (l':List Int),Same (l++[x]) l'/\Hp l'.length l'/\r=[.aD t [a,b,c,.slice (some ⟨g,0,none⟩) l'.length c',e] T,.abs (aI 3 1 (some ⟨g,0,none⟩) l'.length c' (bL l'))]):=by
 refine aU.ofB (λF w h=>?_)
 obtain⟨F1,F2,⟨h1,h2⟩,hr,hap,hF⟩:=Nv.1 h
 have hr:(aI 3 1 A l.length cap (bL l)).h F2 w:=hr
 obtain⟨hr1,hr2⟩:=hr
 have hc:w.cell? ⟨t,3,none⟩=some (.slice A l.length cap)/\w.frozen? ⟨t,3,none⟩=false:=lu h1 rfl rfl rfl
 have cF:(Value.slice A l.length cap).ownBlock≠some t:=λe=>hap t ((h2 t).2 rfl) ((hr2 t).2 e)
 refine (Wu t 3 0 (.slice A l.length cap) l x w hc.1 hc.2 hr1 cF hm (L4 _) hp (lt_of_some h1)).mono ?_
 rintro e' w' ⟨rfl,g,c',l',g1,g2,g3,g4,w1,g5,g6⟩
 have Sh:t≠g:=g3.ne
 have jX:l'.length=l.length+1:=by have:=g1.len;simp at this;omega
 have h1':w1.heap[t]?=some (.cells ⟨[a,b,c,.slice A l.length cap,e]⟩ T (0,0)):=(g5.block t (lt_of_some h1) cF).trans h1
 have aeh:=Eb (j:=3) (u:=.slice (some ⟨g,0,none⟩) (l.length+1) c') h1'
 have agT:w'.heap[t]?=some (.cells ⟨[a,b,c,.slice (some ⟨g,0,none⟩) l'.length c',e]⟩ T (0,0)):=by
  rw [jX];exact (g6.block t (lt_of_some aeh) Sh).trans aeh
 have hks:cL (·=t) w1 (w1.setCell ⟨t,3,none⟩ (.slice (some ⟨g,0,none⟩) (l.length+1) c')):=(cL.refl (·=t) w1).setCell (p:=⟨t,3,none⟩) (.inr rfl) _
 refine⟨_,_,rfl,⟨rfl,g,c',l',g1,g2,rfl⟩,λk=>F1 k\/k=g,Nv.2 ⟨F1,λk=>k=g,⟨agT,h2⟩,⟨g3.own,λk=>?_⟩,λk hk e=>Sh (((h2 k).1 hk).symm.trans e),λk=>Iff.rfl⟩,⟨?_,λk hk=>?_⟩⟩
 ·simp [Value.ownBlock,eq_comm]
 ·have k1:cL F w w1:=g5.mono (λk _ hk=>(hF k).2 (.inr ((hr2 k).2 hk)))
  have k2:cL F w (w1.setCell ⟨t,3,none⟩ (.slice (some ⟨g,0,none⟩) (l.length+1) c')):=k1.trans (hks.mono (λk _ e=>(hF k).2 (.inl ((h2 k).2 e))))
  exact k2.andThen g6 (λi hi e=>by
   rcases g4 with g4|g4
   ·exact (hF i).2 (.inr ((hr2 i).2 (e ▸ g4)))
   subst e;omega)
 rcases hk with hk|rfl
 ·exact .inl ((hF k).2 (.inl hk))
 rcases g4 with g4|g4
 ·exact .inl ((hF _).2 (.inr ((hr2 _).2 g4)))
 exact .inr g4
structure mG (next:Int) (l:List Int) (us:bC Value) (most aL:Int):Prop where
 ti:TI next l us
 Bp:(us.length:Int)<=most
 Bq:most<=1024
 Br:next<=most+1
 Ga:next<=aL+1
 Du:0<=aL/\aL<=1024
theorem mG.Si {next:Int} {l:List Int} {us:bC Value} {most aL:Int} (h:mG next l us most aL):1<=aH.aR us/\aH.aR us<=next/\aH.aR us∉aY us/\next<=1025/\1<=next/\us.length<=1024/\l.length<=1024:=by
 obtain⟨h1,h2,h3⟩:=qM (aY us) 1 h.ti.fU (λx hx=>(h.ti.pos x hx).1)
 have hc:=h.ti.count
 have m0:=h.Bp
 have m1:=h.Bq
 have n1:=h.Br
 refine⟨h1,?_,h2,d5,d5,d5,d5⟩
 rcases Int.lt_or_le next (aH.aR us) with h4|h4
 ·have:=h3 next d5 h4
  have:=(h.ti.pos _ this).2
  omega
 exact h4
theorem OE:dw []=λ_=>none:=by
 funext x
 unfold dw
 split<;>rfl
theorem L9 {us:bC Value} {h:Int} (hn:h∉aY us):dw us (.int .i64 h)=none:=get_none.2 hn
structure TX where
 m:Nat
 A:Option Addr
 c:Nat
 l:List Int
 next:Int
def sJ (TT:TypeId) (t:Nat) (most aL:Int) (us:bC Value) (x:TX):List HP:=
 [.aD t [.int .i64 most,.int .i64 aL,.map (some x.m),.slice x.A x.l.length x.c,.int .i64 x.next] TT,.abs (bM Tryz.prog 3 x.m (dw us) us.length),.abs (aI 3 1 x.A x.l.length x.c (bL x.l))]
def iP (TT:TypeId) (t:Nat) (most aL:Int) (us:bC Value):eG where
 h F w:=∃x:TX,mG x.next x.l us most aL/\(gy (sJ TT t most aL us x)).h F w
 lt:=λ⟨_,_,h⟩ k hk=>eG.lt _ h k hk
 st:=λ⟨x,h1,h⟩ _ _ hk hn=>⟨x,h1,eG.st _ h hk hn⟩
theorem aP.za {β:Bs} {TT:TypeId} {t:Nat} {most aL:Int} {us:bC Value} {l:List HP} {w:World} (h:aP β (l++[.abs (iP TT t most aL us)]) w):∃x:TX,mG x.next x.l us most aL/\aP β (l++sJ TT t most aL us x) w:=
 h.af8 (λ_ h=>h)
theorem aP.sK {β:Bs} {TT:TypeId} {t:Nat} {most aL:Int} {us:bC Value} {l:List HP} {w:World} (x:TX) (hx:mG x.next x.l us most aL) (h:aP β (l++sJ TT t most aL us x) w):aP β (l++[.abs (iP TT t most aL us)]) w:=
 h.aef (λ_ h=>⟨x,hx,h⟩)
end
section
open Go.RowKit Go.Maps Go.Sort Go.Shelf bw aH
theorem mr {z:Int} (h:(Lit.int .i64 z).wf=true):keyOf Tryz.prog 3 (.int .i64 z)=some (.int .i64 z):=
 keyOf_int_mk Tryz.underlying3 h
theorem Ma:∀{l m:List Int},l.Pairwise (· < ·)->m.Pairwise (· < ·)->(∀z,z∈l↔z∈m)->l=m
 |[],[],_,_,_=>rfl
 |[],b::m,_,_,h=>by have:=(h b).2 (T5 ..);cases this
 |a::l,[],_,_,h=>by have:=(h a).1 (T5 ..);cases this
 |a::l,b::m,hl,hm,h=>by
   have hl':=ail.1 hl
   have hm':=ail.1 hm
   have e:a=b:=by
    rcases T8.1 ((h a).1 (T5 ..)) with e|e
    ·exact e
    rcases T8.1 ((h b).2 (T5 ..)) with e2|e2
    ·exact e2.symm
    have:=hm'.1 a e;have:=hl'.1 b e2;omega
   subst e
   congr 1
   refine Ma hl'.2 hm'.2 (λz=>⟨λhz=>?_,λhz=>?_⟩)
   ·rcases T8.1 ((h z).1 (T4 _ hz)) with e|e
    ·have:=hl'.1 z hz;omega
    exact e
   rcases T8.1 ((h z).2 (T4 _ hz)) with e|e
   ·have:=hm'.1 z hz;omega
   exact e
theorem Uf (x y:Int):(if y>x then y else x)=max x y:=by
 rw [Int.max_def];split<;>split<;>omega
theorem abR (x y:Int):(if y<x then y else x)=min x y:=by
 rw [Int.min_def];split<;>split<;>omega
theorem aei (m:Nat):AnyZI.SortsIn Tryz.prog Tryz.sortedI_ren Fence.wide m:=
 ⟨λaD off cap ss W hH hblk eV=>callsIn_wide.2 (AnyM.slices_Sort_int Tryz.sortI aD off cap ss W hH hblk eV),
  λp cap W=>callsIn_wide.2 (AnyM.slices_Sort_int_none Tryz.sortI p cap W)⟩
def Jt (bk:Nat):Value:=.func (.func 105) #[] #[.pointer (some ⟨bk,0,none⟩)]
theorem OG {β:Bs} (mb:Option Nat):aU Tryz.prog β 72 #[.map mb] [] (λv l=>∃bk,v=Jt bk/\l=[.aD bk [.map mb] 170]):=
 aU.NG λW _=>by
  have h:CallsIn Fence.wide 5 Tryz.prog 72 #[.map mb] W λe w'=>e=.returned (Jt W.heap.size)/\w'=W.alloc (.cells #[.map mb] 170):=AnyZI.keys_in Tryz.keysI Fence.wide 5 trivial rfl mb W
  refine ((callsIn_wide (n:=5)).1 h).mono ?_
  rintro e w' ⟨rfl,rfl⟩
  refine⟨_,_,rfl,⟨W.heap.size,rfl,rfl⟩,(cL.refl _ _).alloc _,λk=>k=W.heap.size,⟨?_,λk=>Iff.rfl⟩,λk hk=>Nat.le_of_eq hk.symm⟩
  show (W.heap.push _)[W.heap.size]?=_
  simp
structure KeysOf (f:Lit->Option Value) (ss:List Int):Prop where
 mem:∀z,z∈ss↔(f (.int .i64 z)).isSome=true
 sorted:ss.Pairwise (· < ·)
theorem Ug {w:World} {b n:Nat} {K:TypeId} {f:Lit->Option Value} {D:DataW Value} (hK:Tryz.prog.underlying K=some (.int .i64)) (L:Keyed Tryz.prog K) (qt:w.ownsMap Tryz.prog K yU b n D) (hf:∀kl,Maps.has D kl=(f kl).isSome) {ss:List Int} (hp:ss.Perm (intKeys D)) :
 KeysOf f (ss.mergeSort (λx y=>decide (x<=y))):=by
 obtain⟨es,hD,hpw,_⟩:=qt.entries L
 obtain⟨es',hD',hko⟩:=qt.keysOf
 obtain rfl:es=es':=by rw [hD] at hD';simpa using hD'
 have hk:∀p∈es,∃x,p.1=.int .i64 x:=λp hp=>by
  obtain⟨v,hv⟩:=hko p hp
  obtain⟨x,_,h,_⟩:=keyOf_i64 hK hv
  exact⟨x,h⟩
 have hmem:∀z,z∈intKeys D↔(f (.int .i64 z)).isSome=true:=λz=>by
  rw [←hf,hD]
  show z∈es.map (λp=>Go.intOf p.1)↔es.any (λp=>p.1.sameKey (.int .i64 z))=true
  rw [aik,List.any_eq_true]
  refine⟨λ⟨p,hp,e⟩=>⟨p,hp,?_⟩,λ⟨p,hp,e⟩=>⟨p,hp,?_⟩⟩
  ·obtain⟨x,hx⟩:=hk p hp
   rw [hx] at e ⊢
   have e:x=z:=e
   simp [Lit.sameKey,e]
  obtain⟨x,hx⟩:=hk p hp
  rw [hx] at e ⊢
  show x=z
  simpa [Lit.sameKey] using e
 have hnd:(intKeys D).Nodup:=by
  rw [hD]
  show (es.map λp=>Go.intOf p.1).Nodup
  rw [List.nodup_iff_pairwise_ne,List.pairwise_map]
  refine hpw.imp_of_mem (λ{p q} hp hq cF e=>cF ?_)
  obtain⟨x,hx⟩:=hk p hp
  obtain⟨y,hy⟩:=hk q hq
  rw [hx,hy] at e ⊢
  have e:x=y:=e
  rw [e]
 have tr:∀a b c:Int,decide (a<=b)=true->decide (b<=c)=true->decide (a<=c)=true:=gn
 have to:∀a b:Int,(decide (a<=b) || decide (b<=a))=true:=gn
 have hperm:=(List.mergeSort_perm ss (λx y=>decide (x<=y))).trans hp
 refine⟨λz=>by rw [hperm.mem_iff,hmem],?_⟩
 have h1:=List.pairwise_mergeSort tr to ss
 have h2:(ss.mergeSort (λx y=>decide (x<=y))).Nodup:=hperm.nodup_iff.2 hnd
 rw [List.nodup_iff_pairwise_ne] at h2
 refine (h1.and h2).imp (λ{a b} h=>?_)
 grind
theorem Ju {β:Bs} (b bk n:Nat) (f:Lit->Option Value) (hn:n<=16777216) :
 aU Tryz.prog β 71 #[Jt bk] [.abs (bM Tryz.prog 3 b f n),.aD bk [.map (some b)] 170] (λv l=>∃A cap ss,v=.slice A ss.length cap/\KeysOf f ss/\ss.length=n ∧
  l=[.abs (bM Tryz.prog 3 b f n),.aD bk [.map (some b)] 170,.abs (aI 3 1 A ss.length cap (bL ss))]):=by
 intro R w hS
 obtain⟨F1,h1⟩:=hS.get (i:=0) (p:=.abs (bM Tryz.prog 3 b f n)) rfl
 obtain⟨F2,h2⟩:=hS.get (i:=1) (p:=.aD bk [.map (some b)] 170) rfl
 obtain⟨D,qt,eV,hhas,_⟩:=h1.1
 have hcell:w.cell? ⟨bk,0,none⟩=some (.map (some b)):=(lu h2.1 rfl rfl rfl).1
 have hseq:SeqGives Fence.wide 2 Tryz.prog 105 #[.pointer (some ⟨bk,0,none⟩)] encZ (λss=>ss.Perm (intKeys D)) (Maps.size D) w:=
  AnyZI.keys_gives (ρ:=Tryz.keysI_ren) {Tryz.keysI with} Fence.wide _ trivial rfl d5 bk b n D w (lt_of_some h2.1) hcell qt
 have cS:=AnyZI.sorted_in Tryz.sortedI Fence.wide 5 trivial trivial trivial trivial rfl d5 (aei _) (enters_of Tryz.func104 d6 rfl) 105 #[.pointer (some ⟨bk,0,none⟩)] trivial (enters_of Tryz.func105 d6 rfl) _ _ (by rw [eV];unfold maxLen;omega) (by rw [eV];omega) _ hseq
 change CallsIn _ _ Tryz.prog 71 _ _ _ at cS
 refine ((callsIn_wide (n:=5)).1 cS).mono ?_
 rintro e w' ⟨v,ss,rfl,hp,hrow,hnil,hb⟩
 have jX:(ss.mergeSort (λx y=>decide (x<=y))).length=ss.length:=List.length_mergeSort ss
 have hkeys:=Ug Tryz.underlying3 jf qt hhas hp
 have El:∃A cap,v=.slice A ss.length cap:=by
  rcases hrow.2 with ⟨e1,e2⟩|⟨g,cp,cur,e1,_⟩
  all_goals grind
 obtain⟨A,cap,rfl⟩:=El
 have hn1:ss.length=n:=by
  rw [hp.length_eq,←eV]
  obtain⟨es,hD,_⟩:=qt.entries jf
  rw [hD]
  exact aip ..
 have hq:aP β ([.abs (bM Tryz.prog 3 b f n),.aD bk [.map (some b)] 170,.abs R]++[.abs (aI 3 1 A ss.length cap (bL (ss.mergeSort (λx y=>decide (x<=y)))))]) w':=by
  refine aP.new (F:=λk=>(Value.slice A ss.length cap).ownBlock=some k) hS ⟨?_,λk=>Iff.rfl⟩ ⟨hb.os,hb.tape,hb.output,hb.size,λk hk _=>hb.block k hk⟩ (λk hk=>(hrow.lt k hk).1)
  refine⟨hrow.1,?_⟩
  rcases hrow.2 with h|⟨g,cp,cur,e1,_,h3,h4⟩
  ·exact .inl h
  exact .inr ⟨g,cp,cur,e1,L4 _,h3,h4⟩
 exact⟨_,[.abs (bM Tryz.prog 3 b f n),.aD bk [.map (some b)] 170,.abs (aI 3 1 A ss.length cap (bL (ss.mergeSort (λx y=>decide (x<=y)))))],rfl,⟨A,cap,ss.mergeSort (λx y=>decide (x<=y)),by rw [jX],hkeys,by rw [jX];exact hn1,by rw [jX]⟩,hq.pick (ax:=[0,1,3,2]) rfl rfl⟩
end
section
open Go.RowKit bw aH Go.Maps
attribute [local irreducible] aB bJ av aF lQ
theorem Sj {us:bC Value} {ss:List Int} (hr:aH.dM (aY us)) (h:KeysOf (dw us) ss):ss=aY us:=by
 refine Ma h.sorted hr (λz=>?_)
 rw [h.mem]
 show (aH.get us z).isSome=true↔z∈aY us
 refine⟨λh=>?_,λh=>?_⟩
 ·obtain⟨x,hx⟩:=Option.isSome_iff_exists.1 h;exact get_some hx
 cases hg:aH.get us z with
 |some x=>rfl
 |none=>exact KB h (get_none.1 hg)
theorem ZE {β:Bs} (most:Int) :
 aU Tryz.prog β 79 #[vI (most)] [] (λv l=>∃t,v=vP t/\l=[.abs (iP 233 t (min (max most 0) 1024) 0 [])]):=by
 exact SE Tryz.func79 Tryz.ntmps79 (λR=>SR (jK 1 [] [] (NS (jK 3 [5] [(1,w_ (.int .i64 (max most 0)) (zc (Value.int .i64) (Uf _ _))),(2,w_ (.int .i64 (min (max most 0) 1024)) (zc (Value.int .i64) (abR _ _)))] (aB.sX (d:=(some 6)) (t:=170) (λ_=>d6) Tryz.prog rfl 3 (λm1=>jB 3 [2] (λb2=>.aD b2 [vI (min (max most 0) 1024),vI 0,.map (some m1),.slice none (0) (0),vI 1] 233) (λb2=>NN (av.ret (aF.mem (λw hS=>hS.nN (e:=3) (size:=1)) (aF.mem (gj:=[.abs R,.abs (iP 233 b2 (min (max most 0) 1024) 0 [])]) (λw hS=>aP.sK (l:=[.abs R]) ⟨m1,none,0,[],1⟩ ⟨TI.empty,gn,d5,gn,by show (1:Int)<=0+1;decide,d8⟩ (by rw [←OE] at hS;exact hS.pick (ax:=[0,2,1,3]) (l':=[.abs R]++sJ 233 b2 (min (max most 0) 1024) 0 [] ⟨m1,none,0,[],1⟩) rfl rfl)) (RT _ [1,0] (⟨b2,rfl,rfl⟩))))))))))))
theorem Ii {β:Bs} (t:Nat) (most aL:Int) (us:bC Value) (h:Int) (hw:(Lit.int .i64 h).wf=true) (x:Value) (hg:aH.get us h=some x) :
 aU Tryz.prog β 226 #[vP t,vI (h)] [.abs (iP 233 t most aL us)] (λv l=>v=.tuple #[x,vI 0]/\l=[.abs (iP 233 t most aL us)]):=by
 refine SE Tryz.func226 Tryz.ntmps226 (λR=>av.seq (av.KN (Φ:=λx:TX=>mG x.next x.l us most aL) (hp:=λx=>[.abs R]++sJ 233 t most aL us x) (λw hS=>(hS.pick (ax:=[1,0]) (l':=[.abs R]++[.abs (iP 233 t most aL us)]) rfl rfl).za) (λx hT=>?_)))
 obtain⟨m,A,c,l,next⟩:=x
 replace hT:mG next l us most aL:=hT
 have hb:=hT.Si
 have hm0:=hT.Bp
 have hm1:=hT.Bq
 have hn1:=hT.Br
 have hn2:=hT.Ga
 have Sk:=hT.Du
 have hct:=hT.ti.count
 show av _ _ _ _ _ [.abs R,.aD t [vI (most),vI (aL),.map (some m),.slice A (l.length) (c),vI (next)] 233,.abs (bM Tryz.prog 3 m (dw us) us.length),.abs (aI 3 1 A l.length c (bL l))] _
 exact av.region (jK 2 [] [] (NS (jK 5 [12,13] [(3,a_ 1 t)] (aB.Be 2 (d:=(some 14)) (t:=170) (K:=3) (E:=175) (b:=m) (n:=us.length) (f:=(dw us)) (x:=(.tmp 12)) (ix:=(.tmp 13)) (key:=vI (h)) (z:=.nilIface) (kl:=(.int .i64 h)) (r:=(some x)) (λ_=>d6) d6 (λ_=>d6) (λ_=>d6) jf Tryz.underlying170 (λ_=>d6) (mr hw) (hg) (jK 5 [6,7] [] (NZ (jK 2 [18] [] (NF (KX (SR (jK 3 [4,5] [] (NN (av.ret (aF.mem (λw hS=>aP.sK (l:=[.abs R]) ⟨m,A,c,l,next⟩ (show mG (next) l (us) most (aL) from hT) (hS.pick (ax:=[0,1,2,3]) (l':=[.abs R]++sJ 233 t most (aL) (us) ⟨m,A,c,l,next⟩) rfl rfl)) (RT _ [1,0] (⟨rfl,rfl⟩))))))))))))))))
theorem Mb {β:Bs} (t:Nat) (most aL:Int) (us:bC Value) (h:Int) (hw:(Lit.int .i64 h).wf=true) (hg:aH.get us h=none) :
 aU Tryz.prog β 226 #[vP t,vI (h)] [.abs (iP 233 t most aL us)] (λv l=>v=.tuple #[.nilIface,vI 131]/\l=[.abs (iP 233 t most aL us)]):=by
 refine SE Tryz.func226 Tryz.ntmps226 (λR=>av.seq (av.KN (Φ:=λx:TX=>mG x.next x.l us most aL) (hp:=λx=>[.abs R]++sJ 233 t most aL us x) (λw hS=>(hS.pick (ax:=[1,0]) (l':=[.abs R]++[.abs (iP 233 t most aL us)]) rfl rfl).za) (λx hT=>?_)))
 obtain⟨m,A,c,l,next⟩:=x
 replace hT:mG next l us most aL:=hT
 have hb:=hT.Si
 have hm0:=hT.Bp
 have hm1:=hT.Bq
 have hn1:=hT.Br
 have hn2:=hT.Ga
 have Sk:=hT.Du
 have hct:=hT.ti.count
 show av _ _ _ _ _ [.abs R,.aD t [vI (most),vI (aL),.map (some m),.slice A (l.length) (c),vI (next)] 233,.abs (bM Tryz.prog 3 m (dw us) us.length),.abs (aI 3 1 A l.length c (bL l))] _
 exact av.region (jK 2 [] [] (NS (jK 5 [12,13] [(3,a_ 1 t)] (aB.Be 2 (d:=(some 14)) (t:=170) (K:=3) (E:=175) (b:=m) (n:=us.length) (f:=(dw us)) (x:=(.tmp 12)) (ix:=(.tmp 13)) (key:=vI (h)) (z:=.nilIface) (kl:=(.int .i64 h)) (r:=none) (λ_=>d6) d6 (λ_=>d6) (λ_=>d6) jf Tryz.underlying170 (λ_=>d6) (mr hw) (hg) (jK 5 [6,7] [] (NZ (jK 2 [18] [] (NT (SR (jK 3 [4,5] [] (NN (av.ret (aF.br (aF.mem (λw hS=>aP.sK (l:=[.abs R]) ⟨m,A,c,l,next⟩ (show mG (next) l (us) most (aL) from hT) (hS.pick (ax:=[0,1,2,3]) (l':=[.abs R]++sJ 233 t most (aL) (us) ⟨m,A,c,l,next⟩) rfl rfl)) (RT _ [1,0] (⟨rfl,rfl⟩))))))))))))))))
theorem EO {β:Bs} (t:Nat) (most aL:Int) (us:bC Value) (x:Value) (hf:most<=(us.length:Int)) :
 aU Tryz.prog β 233 #[vP t,x] [.abs (iP 233 t most aL us)] (λv l=>v=.tuple #[vI 0,vI 130]/\l=[.abs (iP 233 t most aL us)]):=by
 refine SE Tryz.func233 Tryz.ntmps233 (λR=>av.seq (av.KN (Φ:=λx:TX=>mG x.next x.l us most aL) (hp:=λx=>[.abs R]++sJ 233 t most aL us x) (λw hS=>(hS.pick (ax:=[1,0]) (l':=[.abs R]++[.abs (iP 233 t most aL us)]) rfl rfl).za) (λx hT=>?_)))
 obtain⟨m,A,c,l,next⟩:=x
 replace hT:mG next l us most aL:=hT
 have hb:=hT.Si
 have hm0:=hT.Bp
 have hm1:=hT.Bq
 have hn1:=hT.Br
 have hn2:=hT.Ga
 have Sk:=hT.Du
 have hct:=hT.ti.count
 show av _ _ _ _ _ [.abs R,.aD t [vI (most),vI (aL),.map (some m),.slice A (l.length) (c),vI (next)] 233,.abs (bM Tryz.prog 3 m (dw us) us.length),.abs (aI 3 1 A l.length c (bL l))] _
 exact av.region (jK 2 [] [] (NN (av.seq (av.seq (rQ (jQ 4 [10] [(3,a_ 1 t)] (bJ.Cx 2 (d:=(some 11)) (t:=170) (K:=3) (E:=175) (b:=m) (n:=us.length) (f:=(dw us)) (x:=(.tmp 10)) (ats:=#[170]) (λ_=>d6) d6 (λ_=>d6) rfl Tryz.underlying170 (jQ 5 [16] [(3,a_ 1 t)] (NQ (NX (cP ((((us.length:Nat):Int):Int)>=(most:Int)) (λpz=>SR (jK 2 [4,5] [] (NN (av.ret (aF.br (aF.mem (λw hS=>aP.sK (l:=[.abs R]) ⟨m,A,c,l,next⟩ (show mG (next) l (us) most (aL) from hT) (hS.pick (ax:=[0,1,2,3]) (l':=[.abs R]++sJ 233 t most (aL) (us) ⟨m,A,c,l,next⟩) rfl rfl)) (RT _ [1,0] (⟨rfl,rfl⟩)))))))) (λpz=>KB pz (by omega)))))))))))))
theorem Ij {β:Bs} (t:Nat) (most aL:Int) (us:bC Value) (x:Value) (hf:(us.length:Int)<most) :
 aU Tryz.prog β 233 #[vP t,x] [.abs (iP 233 t most aL us)] (λv l=>v=.tuple #[vI (aR us),vI 0]/\l=[.abs (iP 233 t most (max aL ((us.length:Int)+1)) (ins (aR us) x us))]):=by
 refine SE Tryz.func233 Tryz.ntmps233 (λR=>av.seq (av.KN (Φ:=λx:TX=>mG x.next x.l us most aL) (hp:=λx=>[.abs R]++sJ 233 t most aL us x) (λw hS=>(hS.pick (ax:=[1,0]) (l':=[.abs R]++[.abs (iP 233 t most aL us)]) rfl rfl).za) (λx hT=>?_)))
 obtain⟨m,A,c,l,next⟩:=x
 replace hT:mG next l us most aL:=hT
 have hb:=hT.Si
 have hm0:=hT.Bp
 have hm1:=hT.Bq
 have hn1:=hT.Br
 have hn2:=hT.Ga
 have Sk:=hT.Du
 have hct:=hT.ti.count
 show av _ _ _ _ _ [.abs R,.aD t [vI (most),vI (aL),.map (some m),.slice A (l.length) (c),vI (next)] 233,.abs (bM Tryz.prog 3 m (dw us) us.length),.abs (aI 3 1 A l.length c (bL l))] _
 refine av.region (jK 2 [] [] (NN (av.seq (av.seq (rQ (jQ 4 [10] [(3,a_ 1 t)] (bJ.Cx 2 (d:=(some 11)) (t:=170) (K:=3) (E:=175) (b:=m) (n:=us.length) (f:=(dw us)) (x:=(.tmp 10)) (ats:=#[170]) (λ_=>d6) d6 (λ_=>d6) rfl Tryz.underlying170 (jQ 5 [16] [(3,a_ 1 t)] (NQ (NX (cP ((((us.length:Nat):Int):Int)>=(most:Int)) (λpz=>KB pz (by omega)) (λpz=>KX (SR (jK 5 [6] [(3,a_ 1 t)] (NZ (jK 6 [26] [(3,a_ 1 t)] (NN (cP ((((l.length:Nat):Int):Int)>(0:Int)) (λwq=>?_) (λwq=>?_)))))))))))))))))))
 ·refine av.region ?_
  obtain⟨n,hn⟩:∃n,l.length=n+1:=⟨l.length-1,d5⟩
  refine aB.tell (p:=∃g,A=some ⟨g,0,none⟩) (λw hS=>let ⟨F,h⟩:=hS.get (i:=3) rfl;aI.head h d5) (λ⟨g,hg⟩=>?_)
  subst hg
  refine jK 4 [31] [] (gL (args:=#[.iface 342 (.pointer (some ⟨t,3,none⟩))]) (pre:=[.aD t [vI (most),vI (aL),.map (some m),.slice (some ⟨g,0,none⟩) (l.length) (c),vI (next)] 233,.abs (aI 3 1 (some ⟨g,0,none⟩) l.length c (bL l))]) [1,3] (aeg hn (by have:=hT.ti.heap;rwa [hn] at this) hT.ti.inj d5) ?_)
  rintro _ _ ⟨rfl,l2,rfl,hp2,hi2,hm2,rfl⟩
  exact jK 5 [6] [] (NS (sl 6 (vI ((at_ l 0))) (.int .i64 ((aR us))) (by rw [hT.ti.Js d5]) (jK 6 [46,47,48] [(3,a_ 0 t)] (aB.qI 3 (d:=none) (t:=170) (K:=3) (E:=175) (b:=m) (n:=us.length) (f:=(dw us)) (x:=(.tmp 46)) (ix:=(.tmp 47)) (y:=(.tmp 48)) (key:=vI ((aR us))) (u:=x) (kl:=(.int .i64 (aR us))) (n':=(us.length+1)) (f':=(dw (ins (aR us) x us))) (λ_=>d6) d6 (λ_=>d6) (λ_=>d6) (λ_=>d6) jf Tryz.underlying170 (by unfold maxLen;omega) (wQ d5 d5) (by rw [L9 hb.2.2.1];rfl) (KM hb.2.2.1 x) (NN (av.seq (av.Cm 13 d6 d6 (lQ.seg (k':=9) (bN:=[(6,vI ((aR us))),(49,vP t),(53,vI (aL)),(57,.map (some m))]) (eT:=[t=t,t=t]) [o_,o_,o_,o_,⟨[.at 0],none,none,none,none⟩,o_,o_,o_,⟨[.at 0],none,none,none,none⟩] [6,49,53,57] (λ_ _=>d6) ⟨rfl,rfl,trivial⟩ d8 (lQ.Cx 3 (d:=(some 58)) (t:=170) (K:=3) (E:=175) (b:=m) (cnt:=(us.length+1)) (f:=(dw (ins (aR us) x us))) (x:=(.tmp 57)) (ats:=#[170]) (λ_=>d6) d6 (λ_=>d6) rfl Tryz.underlying170 d8 (lQ.seg (k':=13) (bN:=[(6,vI ((aR us))),(59,vI ((max aL ((us.length:Int)+1)))),(61,.pointer (some ⟨t,1,none⟩))]) (eT:=[(Value.int .i64 (if (((us.length+1):Nat):Int)>aL then (((us.length+1):Nat):Int) else aL))=(.int .i64 ((max aL ((us.length:Int)+1))))]) [⟨[],none,none,none,some (vI ((max aL ((us.length:Int)+1))))⟩,o_,o_] [6,59,61] (λ_ _=>d6) ⟨by rw [Uf];rfl,trivial⟩ d8 (lQ.done rfl (jC 1 [] [(0,a_ 0 t)] [(0,[(1,vI ((max aL ((us.length:Int)+1))))])] (NS (jK 3 [4,5] [] (NN (av.ret (aF.jq [(3,.abs (bM Tryz.prog 3 m (dw (ins (aR us) x us)) ((ins (aR us) x us).length)))] (λw hS=>by rw [kR];exact hS) (aF.mem (λw hS=>aP.sK (l:=[.abs R]) ⟨m,some ⟨g,0,none⟩,c,l2,next⟩ (show mG (next) l2 ((ins (aR us) x us)) most ((max aL ((us.length:Int)+1))) from ⟨by rw [hT.ti.Js d5];exact hT.ti.ZC d5 x d5 hp2 hi2 hm2,by rw [kR];omega,d5,d5,d5,d5⟩) (hS.pick (ax:=[2,0,3,1]) (l':=[.abs R]++sJ 233 t most ((max aL ((us.length:Int)+1))) ((ins (aR us) x us)) ⟨m,some ⟨g,0,none⟩,c,l2,next⟩) rfl rfl)) (RT _ [1,0] (⟨rfl,rfl⟩))))))))))))))))))))
 refine av.region ?_
 have hl0:l=[]:=aiK d5
 have hl1:l.length=0:=by rw [hl0];rfl
 have hl2:TI next [] us:=hl0 ▸ hT.ti
 exact jC 8 [] [(3,a_ 1 t),(4,wI (next+1) ((next+1))),(7,a_ 1 t)] [(1,[(4,vI ((next+1)))])] (NS (sl 6 (vI (next)) (.int .i64 ((aR us))) (by rw [hl2.Jr]) (jK 6 [46,47,48] [(3,a_ 1 t)] (aB.qI 2 (d:=none) (t:=170) (K:=3) (E:=175) (b:=m) (n:=us.length) (f:=(dw us)) (x:=(.tmp 46)) (ix:=(.tmp 47)) (y:=(.tmp 48)) (key:=vI ((aR us))) (u:=x) (kl:=(.int .i64 (aR us))) (n':=(us.length+1)) (f':=(dw (ins (aR us) x us))) (λ_=>d6) d6 (λ_=>d6) (λ_=>d6) (λ_=>d6) jf Tryz.underlying170 (by unfold maxLen;omega) (wQ d5 d5) (by rw [L9 hb.2.2.1];rfl) (KM hb.2.2.1 x) (NN (av.seq (av.Cm 13 d6 d6 (lQ.seg (k':=9) (bN:=[(6,vI ((aR us))),(49,vP t),(53,vI (aL)),(57,.map (some m))]) (eT:=[t=t,t=t]) [o_,o_,o_,o_,⟨[.at 1],none,none,none,none⟩,o_,o_,o_,⟨[.at 1],none,none,none,none⟩] [6,49,53,57] (λ_ _=>d6) ⟨rfl,rfl,trivial⟩ d8 (lQ.Cx 2 (d:=(some 58)) (t:=170) (K:=3) (E:=175) (b:=m) (cnt:=(us.length+1)) (f:=(dw (ins (aR us) x us))) (x:=(.tmp 57)) (ats:=#[170]) (λ_=>d6) d6 (λ_=>d6) rfl Tryz.underlying170 d8 (lQ.seg (k':=13) (bN:=[(6,vI ((aR us))),(59,vI ((max aL ((us.length:Int)+1)))),(61,.pointer (some ⟨t,1,none⟩))]) (eT:=[(Value.int .i64 (if (((us.length+1):Nat):Int)>aL then (((us.length+1):Nat):Int) else aL))=(.int .i64 ((max aL ((us.length:Int)+1))))]) [⟨[],none,none,none,some (vI ((max aL ((us.length:Int)+1))))⟩,o_,o_] [6,59,61] (λ_ _=>d6) ⟨by rw [Uf];rfl,trivial⟩ d8 (lQ.done rfl (jC 1 [] [(0,a_ 1 t)] [(1,[(1,vI ((max aL ((us.length:Int)+1))))])] (NS (jK 3 [4,5] [] (NN (av.ret (aF.jq [(2,.abs (bM Tryz.prog 3 m (dw (ins (aR us) x us)) ((ins (aR us) x us).length)))] (λw hS=>by rw [kR];exact hS) (aF.mem (λw hS=>aP.sK (l:=[.abs R]) ⟨m,A,c,l,(next+1)⟩ (show mG ((next+1)) l ((ins (aR us) x us)) most ((max aL ((us.length:Int)+1))) from ⟨by rw [hl2.Jr,hl0];exact hl2.ZB x,by rw [kR];omega,d5,d5,d5,d5⟩) (hS.pick (ax:=[0,1,2,3]) (l':=[.abs R]++sJ 233 t most ((max aL ((us.length:Int)+1))) ((ins (aR us) x us)) ⟨m,A,c,l,(next+1)⟩) rfl rfl)) (RT _ [1,0] (⟨rfl,rfl⟩))))))))))))))))))))
theorem Mc {β:Bs} (t:Nat) (most aL:Int) (us:bC Value) (h:Int) (hw:(Lit.int .i64 h).wf=true) (x:Value) (hg:aH.get us h=some x) :
 aU Tryz.prog β 229 #[vP t,vI (h)] [.abs (iP 233 t most aL us)] (λv l=>v=.tuple #[x,vI 0]/\l=[.abs (iP 233 t most aL (del h us))]):=by
 refine SE Tryz.func229 Tryz.ntmps229 (λR=>SR (jK 2 [] [] (NS (jK 2 [9,10] [] (gE [0] (Ii t most aL us h hw x hg) (jK 5 [6,7] [] (NZ (jK 2 [15] [] (NT (av.seq (av.KN (Φ:=λx:TX=>mG x.next x.l us most aL) (hp:=λx=>[.abs R]++sJ 233 t most aL us x) (λw hS=>(hS.pick (ax:=[1,0]) (l':=[.abs R]++[.abs (iP 233 t most aL us)]) rfl rfl).za) (λx0 hT=>?_))))))))))))
 obtain⟨m,A,c,l,next⟩:=x0
 replace hT:mG next l us most aL:=hT
 have hb:=hT.Si
 have hm0:=hT.Bp
 have hm1:=hT.Bq
 have hn1:=hT.Br
 have hn2:=hT.Ga
 have Sk:=hT.Du
 have hct:=hT.ti.count
 have hk:=get_some hg
 show av _ _ _ _ _ [.abs R,.aD t [vI (most),vI (aL),.map (some m),.slice A (l.length) (c),vI (next)] 233,.abs (bM Tryz.prog 3 m (dw us) us.length),.abs (aI 3 1 A l.length c (bL l))] _
 refine av.region (jK 5 [19,20] [(3,a_ 1 t)] (aB.I0 2 (d:=none) (t:=170) (K:=3) (E:=175) (b:=m) (n:=us.length) (f:=(dw us)) (x:=(.tmp 19)) (ix:=(.tmp 20)) (key:=vI (h)) (kl:=(.int .i64 h)) (n':=(us.length-1)) (f':=(dw (del h us))) (ats:=#[170,3]) (λ_=>d6) d6 (λ_=>d6) (λ_=>d6) rfl jf Tryz.underlying170 (mr hw) (by rw [show dw us (.int .i64 h)=some x from hg];rfl) (Sg) (NN (av.region (jK 6 [24,26] [] (gL (args:=#[.iface 342 (.pointer (some ⟨t,3,none⟩)),.iface 3 (.int .i64 (h))]) (pre:=[.aD t [vI (most),vI (aL),.map (some m),.slice A (l.length) (c),vI (next)] 233,.abs (aI 3 1 A l.length c (bL l))]) [1,3] (acX h hT.ti.heap d5) ?_))))))
 rintro _ _ ⟨rfl,g,c',l2,hsm,hp2,rfl⟩
 refine NS (jK 4 [4,5] [] (NN (av.ret ?_)))
 have hld:=tq hT.ti.fU hk
 exact aF.jq [(3,.abs (bM Tryz.prog 3 m (dw (del h us)) ((del h us).length)))] (λw hS=>by rw [show (del h us).length=us.length-1 by omega];exact hS) (aF.mem (λw hS=>aP.sK (l:=[.abs R]) ⟨m,some ⟨g,0,none⟩,c',l2,next⟩ (show mG (next) l2 ((del h us)) most (aL) from ⟨hT.ti.drop hk hsm hp2,d5,hm1,hn1,hn2,Sk⟩) (hS.pick (ax:=[2,0,3,1]) (l':=[.abs R]++sJ 233 t most (aL) ((del h us)) ⟨m,some ⟨g,0,none⟩,c',l2,next⟩) rfl rfl)) (RT _ [1,0] (⟨rfl,rfl⟩)))
theorem Rc {β:Bs} (t:Nat) (most aL:Int) (us:bC Value) (h:Int) (hw:(Lit.int .i64 h).wf=true) (hg:aH.get us h=none) :
 aU Tryz.prog β 229 #[vP t,vI (h)] [.abs (iP 233 t most aL us)] (λv l=>v=.tuple #[.nilIface,vI 131]/\l=[.abs (iP 233 t most aL us)]):=by
 exact SE Tryz.func229 Tryz.ntmps229 (λR=>SR (jK 2 [] [] (NS (jK 2 [9,10] [] (gE [0] (Mb t most aL us h hw hg) (jK 5 [6,7] [] (NZ (jK 2 [15] [] (NF (KX (zR ⟨rfl,rfl⟩)))))))))))
theorem OI {β:Bs} (t:Nat) (most aL:Int) (us:bC Value) :
 aU Tryz.prog β 70 #[vP t] [.abs (iP 233 t most aL us)] (λv l=>∃A c,v=.slice A (aY us).length c/\l=[.abs (iP 233 t most aL us),.abs (aI 3 1 A (aY us).length c (bL (aY us)))]):=by
 refine SE Tryz.func70 Tryz.ntmps70 (λR=>av.seq (av.KN (Φ:=λx:TX=>mG x.next x.l us most aL) (hp:=λx=>[.abs R]++sJ 233 t most aL us x) (λw hS=>(hS.pick (ax:=[1,0]) (l':=[.abs R]++[.abs (iP 233 t most aL us)]) rfl rfl).za) (λx hT=>?_)))
 obtain⟨m,A,c,l,next⟩:=x
 replace hT:mG next l us most aL:=hT
 have hb:=hT.Si
 have hm0:=hT.Bp
 have hm1:=hT.Bq
 have hn1:=hT.Br
 have hn2:=hT.Ga
 have Sk:=hT.Du
 have hct:=hT.ti.count
 show av _ _ _ _ _ [.abs R,.aD t [vI (most),vI (aL),.map (some m),.slice A (l.length) (c),vI (next)] 233,.abs (bM Tryz.prog 3 m (dw us) us.length),.abs (aI 3 1 A l.length c (bL l))] _
 refine av.region (jK 1 [] [] (NS (jK 4 [6] [(3,a_ 1 t)] (gX [] (OG (some m)) (λbk=>gL [3,0] (Ju m bk us.length (dw us) d5) ?_)))))
 rintro _ _ ⟨A2,c2,ss,rfl,hks,hsl,rfl⟩
 refine jK 1 [2] [] (NN (av.ret ?_))
 have hkk:=Sj hT.ti.fU hks
 exact aF.mem (λw hS=>aP.sK (l:=[.abs R,.abs (aI 3 1 A2 ss.length c2 (bL ss))]) ⟨m,A,c,l,next⟩ (show mG (next) l (us) most (aL) from hT) (hS.pick (ax:=[3,2,4,0,5]) (l':=[.abs R,.abs (aI 3 1 A2 ss.length c2 (bL ss))]++sJ 233 t most (aL) (us) ⟨m,A,c,l,next⟩) rfl rfl)) (RT (l:=[.abs (iP 233 t most aL us),.abs (aI 3 1 A2 ss.length c2 (bL ss))]) (.slice A2 (ss.length) (c2)) [2,1,0] (⟨A2,c2,by rw [hkk],by rw [hkk]⟩))
end
section
open Go.RowKit Go.Maps bw aH
theorem aU.sF {P:Program} {β:Bs} {f:FuncId} {args:Array Value} {pre R:List HP} {post:Value->List HP->Prop} (h:∀β':Bs,oe β R β'->aU P β' f args pre post):aU P β f args (pre++R) (λv l=>∃l0,post v l0/\l=l0++R):=by
 intro A w hS
 have h1:=aP.turn hS
 rw [←aiv] at h1
 obtain⟨β',g1,_,g3⟩:=h1.sF
 refine (h β' g1 A w (aP.turn g3)).mono ?_
 rintro e w' ⟨v,l,h1,h2,h3⟩
 refine⟨v,l++R,h1,⟨l,h2,rfl⟩,?_⟩
 have h4:=g1.back (aP.turn h3)
 rw [aiv] at h4
 exact aP.turn h4
def dQ (L:HL) (us:bC Th):bC Value:=us.map λq=>(q.1,jl L q.2)
theorem kB (L:HL) (us:bC Th) (h:Int):dw (dQ L us) (.int .i64 h)=(aH.get us h).map (jl L):=get_map (jl L) us h
theorem KO {L:HL} {us:bC Th} {h:Int}:pZ (dw (dQ L us)) (.int .i64 h) none=dw (dQ L (del h us)):=by
 rw [Sg]
 exact zc dw (KL (jl L) h us).symm
theorem wV (L:HL) (us:bC Th):(dQ L us).length=us.length:=aip ..
theorem Ik (L:HL) (us:bC Th):aY (dQ L us)=aY us:=keys_map (jl L) us
def tu (O:eu) (k:Nat):eu:=bD O k (λo=>{o with aJ:=true})
def uh (O:eu) (t:Th):Prop:=(ah O t.k).aJ=true/\(ah O t.k).aQ=0
instance (O:eu) (t:Th):Decidable (uh O t):=inferInstanceAs (Decidable (_/\_))
def kg (O:eu) (ax:bC Th) (t:Th):bC Th:=if uh O t then del (ah O t.k).id ax else ax
def oQ (O:eu) (used:Int) (t:Th):Int:=if uh O t then if t.kind=1 then used-(ah O t.k).data.length else used else used
abbrev pF (f m t:Nat) (X:FM):HP:=.aD f [.int .i64 X.cN,.int .i64 X.cB,.int .i64 X.cH,.int .i64 X.cS,.int .i64 X.cZ,.map (some m),.pointer (some ⟨t,0,none⟩),.int .i64 X.last,.int .i64 X.aq,.int .i64 X.used] 173
abbrev pI (m:Nat) (L:HL) (us:bC Th):HP:=.abs (bM Tryz.prog 3 m (dw (dQ L us)) us.length)
abbrev pT (t:Nat) (most aL:Int) (L:HL) (us:bC Th):HP:=.abs (iP 233 t most aL (dQ L us))
abbrev pO (O:eu) (L:HL):HP:=.abs (bp (fV O L))
abbrev pD (O:eu) (L:HL):HP:=.abs (bp (eY O L))
abbrev pE (O:eu) (L:HL):HP:=.abs (bp (iE O L))
structure aZ where
 X:FM
 O:eu
 ax:bC Th
 us:bC Th
 aL:Int
abbrev pA (f m t:Nat) (L:HL) (S:aZ):List HP:=[pF f m t S.X,pI m L S.ax,pT t S.X.cH S.aL L S.us,pO S.O L,pD S.O L,pE S.O L]
structure aK where
 op:Int
 bA:Int
 other:Int
 name:ByteArray
 text:ByteArray
 dA:Option Addr
 dC:Nat
 data:List UInt8
 mode:Int
 cM:Int
 cO:Int
 bH:Int
 bh:Int
 code:Int
 answer:Int
def aW (c:aK):List Value:=[.int .i64 c.op,.int .i64 c.bA,.int .i64 c.other,.string c.name,.string c.text,.slice c.dA c.data.length c.dC,.int .i64 c.mode,.int .i64 c.cM,.int .i64 c.cO,.int .i64 c.bH,.int .i64 c.bh,.int .i64 c.code,.int .i64 c.answer]
abbrev pC (cb:Nat) (c:aK):HP:=.aD cb (aW c) 63
abbrev c0 (c:aK):aK:={c with answer:=0,code:=230}
def agU (L:HL):Except Int Nat->Value
 |.error e=>.tuple #[.pointer none,.int .i64 e]
 |.ok d=>.tuple #[.pointer (some ⟨L.b d,0,none⟩),.int .i64 0]
def agV (L:HL):Except Int Th->Value
 |.error e=>.tuple #[.nilIface,.int .i64 e]
 |.ok t=>.tuple #[jl L t,.int .i64 0]
noncomputable section
def ic (O:eu) (us:bC Th) (h:Int) (name:ByteArray) (fH:Int):Except Int Nat:=
 match aH.get us h with
 |none=>.error 131
 |some t=>
   if t.kind=2 then
    if (ah O t.k).aJ=true then .error 170
    else if bW name then if bits BinOp.and .i64 (ah O t.k).mode fH=fH then .ok t.k else .error 175
    else .error 95
   else .error 173
def lF (s:ByteArray):Int:=
 if s=⟨#[]⟩ then 90 else if s.size>4096 then 93 else if qE s then 0 else 91
def Room (X:FM) (ax:bC Th):Prop:=(ax.length:Int)<X.cN/\X.last<1099511627776/\X.aq<8192
instance (X:FM) (ax:bC Th):Decidable (Room X ax):=inferInstanceAs (Decidable (_/\_/\_))
def iB (X:FM) (O:eu) (ax:bC Th) (d:Nat) (name:ByteArray):Int:=
 if bF name (ah O d).aq=none then if Room X ax then 0 else 177 else 171
def dN (X:FM) (kind mode:Int):bV:=⟨X.last+1,mode,0,0,X.cS,X.cZ,0,0,false,kind,[],⟨#[]⟩,[],none⟩
def dx (X:FM):Nat:=(X.last+1).toNat
def iw (S:aZ) (d:Nat) (name:ByteArray) (o:bV):aZ:=
 {S with
   X:={S.X with last:=S.X.last+1,aq:=S.X.aq+1}
   O:=dV S.X (bD S.O (dx S.X) (λ_=>o)) d name ⟨dx S.X,o.kind⟩
   ax:=ins (S.X.last+1) ⟨dx S.X,o.kind⟩ S.ax}
def bg (S:aZ) (d:Nat) (name:ByteArray) (t:Th):aZ:=
 {S with
   X:={S.X with aq:=S.X.aq-1,used:=if (ah (bn S.X S.O d name t) t.k).aT=0 then oQ (tu (bn S.X S.O d name t) t.k) S.X.used t else S.X.used}
   O:=if (ah (bn S.X S.O d name t) t.k).aT=0 then tu (bn S.X S.O d name t) t.k else bn S.X S.O d name t
   ax:=if (ah (bn S.X S.O d name t) t.k).aT=0 then kg (tu (bn S.X S.O d name t) t.k) S.ax t else S.ax}
theorem xZ {S:aZ} {d:Nat} {name:ByteArray} {t:Th} (h:(ah (bn S.X S.O d name t) t.k).aT=0):bg S d name t={S with X:={S.X with aq:=S.X.aq-1,used:=oQ (tu (bn S.X S.O d name t) t.k) S.X.used t},O:=tu (bn S.X S.O d name t) t.k,ax:=kg (tu (bn S.X S.O d name t) t.k) S.ax t}:=by
 unfold bg
 simp only [t8 h]
theorem x5 {S:aZ} {d:Nat} {name:ByteArray} {t:Th} (h:¬(ah (bn S.X S.O d name t) t.k).aT=0):bg S d name t={S with X:={S.X with aq:=S.X.aq-1},O:=bn S.X S.O d name t}:=by
 unfold bg
 simp only [nw h]
def lP (S:aZ) (d:Nat) (name:ByteArray) (mode:Int):Int×aZ:=
 if iB S.X S.O S.ax d name=0 then (0,iw S d name (dN S.X 2 mode)) else (iB S.X S.O S.ax d name,S)
def j4 (S:aZ) (d:Nat) (name text:ByteArray):Int×aZ:=
 if lF text=0 then
  if iB S.X S.O S.ax d name=0 then (0,iw S d name {dN S.X 3 511 with target:=text}) else (iB S.X S.O S.ax d name,S)
 else (lF text,S)
def iW (S:aZ) (d:Nat) (name:ByteArray):Int×aZ:=
 match bF name (ah S.O d).aq with
 |none=>(170,S)
 |some t=>if t.kind=2 then (172,S) else (0,bg S d name t)
def jr (O:eu) (k:Nat):eu:=bD O k (λo=>{o with up:=none})
def jt (S:aZ) (d:Nat) (name:ByteArray):Int×aZ:=
 match bF name (ah S.O d).aq with
 |none=>(170,S)
 |some t=>if t.kind=2 then if (ah S.O t.k).aq=[] then (0,{bg S d name t with O:=jr (bg S d name t).O t.k}) else (178,S) else (173,S)
inductive su (O:eu) (sub:Nat):Nat->Prop
 |here:su O sub sub
 |up {k j:Nat}:(ah O k).up=some j->su O sub j->su O sub k
instance (O:eu) (sub k:Nat):Decidable (su O sub k):=Classical.propDecidable _
def pJ (S:aZ) (d:Nat) (name:ByteArray) (to:Nat) (aG:ByteArray) (t:Th):aZ:=
 {S with X:={S.X with aq:=S.X.aq-1+1},O:=dV S.X (bn S.X S.O d name t) to aG t}
def dG (S:aZ) (d:Nat) (name:ByteArray) (to:Nat) (aG:ByteArray):Int×aZ:=
 match bF name (ah S.O d).aq with
 |none=>(170,S)
 |some t=>
   if t.kind=2/\su S.O t.k to then (174,S)
   else match bF aG (ah S.O to).aq with
    |none=>(0,pJ S d name to aG t)
    |some o=>
      if o=t then (0,S) else if o.kind=2 then (172,S) else if t.kind=2 then (173,S)
      else (0,pJ (bg S to aG o) d name to aG t)
def dU (X:FM) (n:Nat):Nat:=(min (n:Int) (X.cB-X.used)).toNat
def iC (S:aZ) (k:Nat) (bs:List UInt8):Int×Int×aZ:=
 if bs=[] then (0,0,S)
 else if S.X.cB-S.X.used<=0 then (0,176,S)
 else ((dU S.X bs.length:Int),0,{S with
  X:={S.X with used:=S.X.used+(dU S.X bs.length:Int)}
  O:=bD S.O k (λo=>{o with data:=o.data++bs.take (dU S.X bs.length),bH:=S.X.cS,bh:=S.X.cZ})})
def fD (S:aZ) (t:Th):Int×Int×aZ:=
 (if (S.us.length:Int)<S.X.cH then aR S.us else 0,if (S.us.length:Int)<S.X.cH then 0 else 130,{S with
  O:=if (S.us.length:Int)<S.X.cH then bD S.O t.k (λo=>{o with aQ:=o.aQ+1}) else S.O
  us:=if (S.us.length:Int)<S.X.cH then ins (aR S.us) t S.us else S.us
  aL:=if (S.us.length:Int)<S.X.cH then max S.aL ((S.us.length:Int)+1) else S.aL})
theorem mB {S:aZ} {t:Th} (h:(S.us.length:Int)<S.X.cH):fD S t=(aR S.us,0,{S with O:=bD S.O t.k (λo=>{o with aQ:=o.aQ+1}),us:=ins (aR S.us) t S.us,aL:=max S.aL ((S.us.length:Int)+1)}):=by
 unfold fD
 simp only [t8 h]
theorem om {S:aZ} {t:Th} (h:¬(S.us.length:Int)<S.X.cH):fD S t=(0,130,S):=by
 unfold fD
 simp only [nw h]
abbrev vK:=Int×aZ×aK
def kP (S:aZ) (c:aK):vK:=
 match aH.get S.ax c.other with
 |none=>(141,S,c)
 |some t=>if t.kind=2 then ((fD S t).2.1,(fD S t).2.2,{c with answer:=(fD S t).1}) else (173,S,c)
def jU (O:eu) (us:bC Th) (c:aK):Except Int Th:=
 match ic O us c.bA c.name 64 with
 |.error e=>.error e
 |.ok d=>match bF c.name (ah O d).aq with
   |none=>.error 170
   |some t=>.ok t
def gh (S:aZ) (c:aK):vK:=
 match jU S.O S.us c with
 |.error e=>(e,S,c)
 |.ok t=>if t.kind=3 then (174,S,c) else if t.kind=1 then (173,S,c) else ((fD S t).2.1,(fD S t).2.2,{c with answer:=(fD S t).1})
def rz (S:aZ) (c:aK):vK:=
 match jU S.O S.us c with
 |.error e=>(e,S,c)
 |.ok t=>if t.kind=3 then (174,S,c) else if t.kind=2 then (172,S,c) else ((fD S t).2.1,(fD S t).2.2,{c with answer:=(fD S t).1})
def mT (m:Int):Prop:=0<=m/\m<=4095
instance (m:Int):Decidable (mT m):=inferInstanceAs (Decidable (_/\_))
def iQ (S:aZ) (c:aK):vK:=
 match ic S.O S.us c.bA c.name 192 with
 |.error e=>(e,S,c)
 |.ok d=>if mT c.mode then ((lP S d c.name c.mode).1,(lP S d c.name c.mode).2,c) else (120,S,c)
def sy (S:aZ) (d:Nat) (name:ByteArray) (mode:Int):Int×Int×aZ:=
 if iB S.X S.O S.ax d name=0 then
  if (S.us.length:Int)<S.X.cH then
   (aR S.us,0,iw {S with us:=ins (aR S.us) ⟨dx S.X,1⟩ S.us,aL:=max S.aL ((S.us.length:Int)+1)} d name {dN S.X 1 mode with aQ:=1})
  else (0,130,S)
 else (0,iB S.X S.O S.ax d name,S)
def rA (S:aZ) (c:aK):vK:=
 match ic S.O S.us c.bA c.name 192 with
 |.error e=>(e,S,c)
 |.ok d=>if mT c.mode then
  if iB S.X S.O S.ax d c.name=0 then ((sy S d c.name c.mode).2.1,(sy S d c.name c.mode).2.2,{c with answer:=(sy S d c.name c.mode).1})
  else (iB S.X S.O S.ax d c.name,S,c)
  else (120,S,c)
def qd (S:aZ) (c:aK):vK:=
 match ic S.O S.us c.bA c.name 192 with
 |.error e=>(e,S,c)
 |.ok d=>((j4 S d c.name c.text).1,(j4 S d c.name c.text).2,c)
def yY (S:aZ) (d:Nat) (name:ByteArray) (to:Nat) (aG:ByteArray):Int×aZ:=
 match bF name (ah S.O d).aq with
 |none=>(170,S)
 |some t=>if t.kind=2 then (172,S)
   else if bF aG (ah S.O to).aq=none then
    if S.X.aq<8192 then (0,{S with X:={S.X with aq:=S.X.aq+1},O:=dV S.X S.O to aG t}) else (177,S)
   else (171,S)
def uY (S:aZ) (c:aK):vK:=
 match ic S.O S.us c.bA c.name 64 with
 |.error e=>(e,S,c)
 |.ok d=>match ic S.O S.us c.other c.text 192 with
   |.error e=>(e,S,c)
   |.ok to=>((yY S d c.name to c.text).1,(yY S d c.name to c.text).2,c)
def rC (S:aZ) (c:aK):vK:=
 match ic S.O S.us c.bA c.name 192 with
 |.error e=>(e,S,c)
 |.ok d=>((iW S d c.name).1,(iW S d c.name).2,c)
def sM (S:aZ) (c:aK):vK:=
 match ic S.O S.us c.bA c.name 192 with
 |.error e=>(e,S,c)
 |.ok d=>((jt S d c.name).1,(jt S d c.name).2,c)
def rE (S:aZ) (c:aK):vK:=
 match ic S.O S.us c.bA c.name 192 with
 |.error e=>(e,S,c)
 |.ok d=>match ic S.O S.us c.other c.text 192 with
   |.error e=>(e,S,c)
   |.ok to=>((dG S d c.name to c.text).1,(dG S d c.name to c.text).2,c)
def sO (S:aZ) (c:aK):vK:=
 match aH.get S.us c.bA with
 |none=>(131,S,c)
 |some t=>if t.kind=1 then ((iC S t.k c.data).2.1,(iC S t.k c.data).2.2,{c with answer:=(iC S t.k c.data).1}) else (172,S,c)
def Dv (m:Int):Prop:=0<=m/\m<=2147483647
instance (m:Int):Decidable (Dv m):=inferInstanceAs (Decidable (_/\_))
def sQ (S:aZ) (c:aK):vK:=
 match aH.get S.us c.bA with
 |none=>(131,S,c)
 |some t=>
   if (ah S.O t.k).aJ=true/\t.kind=2 then (170,S,c)
   else if mT c.mode then
    if Dv c.cM/\Dv c.cO then
     if iU c.bH c.bh then (0,{S with O:=bD S.O t.k (λo=>{o with mode:=c.mode,cM:=c.cM,cO:=c.cO,bH:=c.bH,bh:=c.bh})},c)
     else (20,S,c)
    else (11,S,c)
   else (120,S,c)
def Gb (O:eu) (c:aK):Option Th->aK
 |none=>{c with other:=0,mode:=0,cM:=0,cO:=0,bH:=0,bh:=0}
 |some t=>{c with answer:=(ah O t.k).id,other:=t.kind,mode:=(ah O t.k).mode,cM:=(ah O t.k).cM,cO:=(ah O t.k).cO,bH:=(ah O t.k).bH,bh:=(ah O t.k).bh}
def Bt (S:aZ) (c:aK):vK:=
 match aH.get S.us c.bA with
 |none=>(131,S,Gb S.O c none)
 |some t=>(0,S,Gb S.O c (some t))
def vf (S:aZ) (c:aK):vK:=
 match jU S.O S.us c with
 |.error e=>(e,S,Gb S.O c none)
 |.ok t=>(0,S,Gb S.O c (some t))
def mD (O:eu) (k:Nat):eu:=bD O k (λo=>{o with aQ:=o.aQ-1})
def ju (S:aZ) (c:aK):vK:=
 match aH.get S.us c.bA with
 |none=>(131,S,c)
 |some t=>(0,{S with
  X:={S.X with used:=oQ (mD S.O t.k) S.X.used t}
  O:=mD S.O t.k
  ax:=kg (mD S.O t.k) S.ax t
  us:=del c.bA S.us},c)
def iL (S:aZ) (c:aK):vK:=
 if c.op=1 then kP S c else if c.op=2 then gh S c else if c.op=3 then rz S c else if c.op=4 then iQ S c
 else if c.op=5 then rA S c else if c.op=6 then qd S c else if c.op=7 then uY S c else if c.op=8 then rC S c
 else if c.op=9 then sO S c else if c.op=10 then sQ S c else if c.op=11 then Bt S c else if c.op=12 then vf S c
 else if c.op=13 then ju S c else if c.op=14 then sM S c else if c.op=15 then rE S c else (230,S,c)
def fF (S:aZ) (c:aK):aZ×aK:=
 ((iL S {c with answer:=0,code:=230}).2.1,{ (iL S {c with answer:=0,code:=230}).2.2 with code:=(iL S {c with answer:=0,code:=230}).1})
end
section sums
variable {V:Type} {g g':Int×V->Nat} {us:bC V} {h:Int} {v:V}
def ig (g:Int×V->Nat):bC V->Nat
 |[]=>0
 |p::r=>g p+ig g r
theorem Il:ig g (ins h v us)=g (h,v)+ig g us:=by
 induction us with
 |nil=>rfl
 |cons p r ih=>
   grind [ins,ig]
theorem lG (hc:∀p∈us,g' p=g p):ig g' us=ig g us:=by
 induction us with
 |nil=>rfl
 |cons p r ih=>
   grind [ig]
theorem Sl (hc:∀p∈us,g' p<=g p):ig g' us<=ig g us:=by
 induction us with
 |nil=>exact N6 _
 |cons p r ih=>
   grind [ig]
theorem zX {p:Int×V} {r:bC V}:aH.get (p::r) h=if p.1=h then some p.2 else aH.get r h:=by
 unfold aH.get
 grind
theorem get_mem {us:bC V} (e:aH.get us h=some v):(h,v)∈us:=by
 induction us with
 |nil=>cases e
 |cons p r ih=>
   grind [zX]
theorem oy {us:bC V} (hr:aH.dM (aY us)) (e:(h,v)∈us):aH.get us h=some v:=by
 induction us with
 |nil=>cases e
 |cons p r ih=>
   rw [keys_cons] at hr
   obtain⟨h1,h2⟩:=ail.1 hr
   rw [zX]
   rcases T8.1 e with e|e
   ·subst e;rw [t8 rfl]
   have:p.1<h:=h1 h (aik.2 ⟨(h,v),e,rfl⟩)
   rw [nw d5]
   exact ih h2 e
theorem sA (e:aH.get us h=some v):g (h,v)<=ig g us:=by
 have hm:=get_mem e
 induction us with
 |nil=>cases hm
 |cons p r ih=>
   grind [ig,zX]
theorem Im (hr:aH.dM (aY us)) (e:aH.get us h=some v) (hc:∀p∈us,p.1≠h->g' p=g p):ig g' us+g (h,v)=ig g us+g' (h,v):=by
 induction us with
 |nil=>cases e
 |cons p r ih=>
   rw [keys_cons] at hr
   obtain⟨h1,h2⟩:=ail.1 hr
   rw [zX] at e
   show g' p+ig g' r+_=g p+ig g r+_
   split at e
   ·rename_i e2
    cases e
    have e3:ig g' r=ig g r:=lG (λq hq=>hc q (T4 _ hq) (by
     have:=h1 q.1 (aik.2 ⟨q,hq,rfl⟩);omega))
    grind
   rename_i e2
   have:=ih h2 e (λq hq=>hc q (T4 _ hq))
   have:=hc p (T5 ..) e2
   omega
theorem ZF {p:Int×V} {r:bC V}:del h (p::r)=if p.1=h then del h r else p::del h r:=by
 grind [del]
theorem acY {us:bC V} (hn:h∉aY us):del h us=us:=by
 unfold del
 refine List.filter_eq_self.2 (λp hp=>?_)
 grind [aY,del]
theorem Io (hr:aH.dM (aY us)) (e:aH.get us h=some v):ig g (del h us)+g (h,v)=ig g us:=by
 induction us with
 |nil=>cases e
 |cons p r ih=>
   rw [keys_cons] at hr
   obtain⟨h1,h2⟩:=ail.1 hr
   rw [zX] at e
   rw [ZF]
   show _=g p+ig g r
   split at e
   ·grind [acY]
   rename_i e2
   rw [nw e2]
   show g p+ig g (del h r)+_=_
   have:=ih h2 e
   omega
theorem OJ {us:bC V} (hr:aH.dM (aY us)):aH.dM (aY (del h us)):=by
 rw [uD]
 exact ai5 _ hr
end sums
section agW
variable {n:ByteArray} {t:Th} {es:jj Th} {q:ByteArray×Th->Bool}
theorem Wv:(kT n t es).countP q=es.countP q+if q (n,t) then 1 else 0:=by
 induction es with
 |nil=>simp [kT,List.countP_cons]
 |cons e r ih=>
   grind [kT]
theorem Ww {es:jj Th} (hd:pX es) (h:bF n es=some t):(kU n es).countP q+(if q (n,t) then 1 else 0)=es.countP q:=by
 induction es with
 |nil=>cases h
 |cons e r ih=>
   obtain⟨h1,h2⟩:=ail.1 hd
   rw [qc] at h
   rw [List.countP_cons]
   by_cases he:e.1=n
   ·rw [t8 he] at h
    have e1:kU n (e::r)=r:=by
     unfold kU
     rw [List.filter_cons,nw (by simp [he])]
     exact List.filter_eq_self.2 (λx hx=>gn)
    grind
   grind [kU,pX,bF]
theorem OL {e:ByteArray×Th} {es:jj Th} (h:e∈kU n es):e∈es/\e.1≠n:=by
 grind [kU]
theorem zY {es:jj Th} (hd:pX es) (h:(n,t)∈es):bF n es=some t:=by
 induction es with
 |nil=>cases h
 |cons e r ih=>
   obtain⟨h1,h2⟩:=ail.1 hd
   grind [qc,pX,bF]
end agW
def aS (ax:bC Th) (t:Th):Prop:=aH.get ax (t.k:Int)=some t
def pK (es:jj Th):Prop:=es.Pairwise (λa b=>¬ja b.1 a.1)
def ny (ax:bC Th) (O:eu) (k:Nat):Nat:=ig (λp=>(ah O p.2.k).aq.countP (λe=>decide (e.2.k=k))) ax
def tot (ax:bC Th) (O:eu):Nat:=ig (λp=>(ah O p.2.k).aq.length) ax
def bytes (ax:bC Th) (O:eu):Nat:=ig (λp=>(ah O p.2.k).data.length) ax
def hnd (us:bC Th) (k:Nat):Nat:=ig (λp=>if p.2.k=k then 1 else 0) us
structure qN (o:bV):Prop where
 mode:0<=o.mode/\o.mode<=4095
 cM:0<=o.cM/\o.cM<=2147483647
 cO:0<=o.cO/\o.cO<=2147483647
 time:iU o.bH o.bh
 data:o.kind≠1->o.data=[]
 aq:o.kind≠2->o.aq=[]
 target:dL o.kind o.target
structure Inv0 (S:aZ):Prop where
 cN:0<=S.X.cN/\S.X.cN<=4096
 cB:0<=S.X.cB/\S.X.cB<=1099511627776
 cH:0<=S.X.cH/\S.X.cH<=1024
 now:iU S.X.cS S.X.cZ
 last:0<=S.X.last/\S.X.last<=1099511627776
 fU:aH.dM (aY S.ax)
 len:S.ax.length<=4096
 ax:∀i t,aH.get S.ax i=some t->i=(t.k:Int)/\0<i/\i<=S.X.last
 ob:∀t,aS S.ax t->(ah S.O t.k).id=(t.k:Int)/\(ah S.O t.k).kind=t.kind/\(t.kind=1\/t.kind=2\/t.kind=3)
 mt:∀t,aS S.ax t->qN (ah S.O t.k)
 aq:∀t,aS S.ax t->∀e∈(ah S.O t.k).aq,bW e.1/\aS S.ax e.2
 sorted:∀t,aS S.ax t->pK (ah S.O t.k).aq
 dead:∀k,(∀t,aS S.ax t->t.k≠k)->(ah S.O k).aq=[]/\(ah S.O k).up=none
 Bu:∀k:Nat,S.X.last<(k:Int)->(ah S.O k).kind=0
 total:S.X.aq=(tot S.ax S.O:Int)/\S.X.aq<=8192
 aT:∀t,aS S.ax t->(ah S.O t.k).aT=(ny S.ax S.O t.k:Int)
 once:∀t,aS S.ax t->t.kind=2->(ah S.O t.k).aT<=1
 aQ:∀t,aS S.ax t->(ah S.O t.k).aQ=(hnd S.us t.k:Int)
 usr:aH.dM (aY S.us)
 wC:∀x∈aY S.us,1<=x/\x<=S.aL
 EP:(S.us.length:Int)<=S.X.cH
 aL:0<=S.aL/\S.aL<=S.X.cH
 us:∀h t,aH.get S.us h=some t->aS S.ax t/\t.kind≠3
 aJ:∀t,aS S.ax t->(ah S.O t.k).aJ=true->(ah S.O t.k).aT=0/\(ah S.O t.k).aq=[]
 up:∀t,aS S.ax t->∀d,(ah S.O t.k).up=some d↔t.kind=2/\aS S.ax ⟨d,2⟩/\∃n,bF n (ah S.O d).aq=some t
 deep:∃dp:Nat->Nat,∀k d,(ah S.O k).up=some d->dp d<dp k
 used:S.X.used=(bytes S.ax S.O:Int)/\S.X.used<=140737488355328
structure bB (S:aZ):Prop extends Inv0 S where
 full:∀t,aS S.ax t->(ah S.O t.k).aJ=true->0<(ah S.O t.k).aQ
section at_
variable {X:FM} {O:eu} {d k:Nat} {name:ByteArray} {t:Th}
theorem lg (h:t.k≠d):ah (bn X O d name t) k=if k=d then {ah O d with aq:=kU name (ah O d).aq,bH:=X.cS,bh:=X.cZ} else if k=t.k then {ah O k with aT:=(ah O k).aT-1} else ah O k:=by
 grind [bn,xY,jk,iF]
theorem vg (h:t.k≠d):ah (dV X O d name t) k=if k=d then {ah O d with aq:=kT name t (ah O d).aq,bH:=X.cS,bh:=X.cZ} else if k=t.k then {ah O k with aT:=(ah O k).aT+1,up:=if t.kind=2 then some d else (ah O k).up} else ah O k:=by
 grind [dV,xY,uz,iF,jk]
end at_
section counts
variable {ax:bC Th} {O O':eu} {d k:Nat} {n:ByteArray} {t:Th}
theorem OM {q:ByteArray×Th->Bool} (hr:aH.dM (aY ax)) (hd:aH.get ax (d:Int)=some ⟨d,2⟩) (hk:∀i u,aH.get ax i=some u->i=(u.k:Int)) (ho:∀x,x≠d->(ah O' x).aq=(ah O x).aq) (h1:(ah O' d).aq=kU n (ah O d).aq) (h2:pX (ah O d).aq) (h3:bF n (ah O d).aq=some t) :
 ig (λp=>(ah O' p.2.k).aq.countP q) ax+(if q (n,t) then 1 else 0)=ig (λp=>(ah O p.2.k).aq.countP q) ax:=by
 grind [Im,ah,oy,Ww,kU,ig]
theorem ZG {q:ByteArray×Th->Bool} (hr:aH.dM (aY ax)) (hd:aH.get ax (d:Int)=some ⟨d,2⟩) (hk:∀i u,aH.get ax i=some u->i=(u.k:Int)) (ho:∀x,x≠d->(ah O' x).aq=(ah O x).aq) (h1:(ah O' d).aq=kT n t (ah O d).aq) :
 ig (λp=>(ah O' p.2.k).aq.countP q) ax=ig (λp=>(ah O p.2.k).aq.countP q) ax+(if q (n,t) then 1 else 0):=by
 grind [Im,ah,oy,Wv,kT,ig]
theorem x6:tot ax O=ig (λp=>(ah O p.2.k).aq.countP (λ_=>true)) ax:=lG (λp _=>nh)
theorem Wx {q:ByteArray×Th->Bool} (ho:∀x,(ah O' x).aq=(ah O x).aq):ig (λp=>(ah O' p.2.k).aq.countP q) ax=ig (λp=>(ah O p.2.k).aq.countP q) ax:=lG (λp _=>by rw [ho])
theorem Wy:ny ax O k<=tot ax O:=by
 rw [x6]
 exact Sl (λp _=>List.countP_mono_left (λ_ _ _=>rfl))
theorem qO (hd:aH.get ax (d:Int)=some ⟨d,2⟩) (h:bF n (ah O d).aq=some t):0<ny ax O t.k:=by
 exact aiq (List.countP_pos_iff.2 ⟨(n,t),rf h,nh⟩) (sA (g:=λp=>(ah O p.2.k).aq.countP (λe=>decide (e.2.k=t.k))) hd)
theorem Jv (hr:aH.dM (aY ax)) (h:0<ny ax O k):∃i u,aH.get ax i=some u/\∃e∈(ah O u.k).aq,e.2.k=k:=by
 apply aiy
 intro hn
 have:ny ax O k=ig (λ_=>0) ax:=lG (λp hp=>by
  show List.countP _ _=0
  rw [List.countP_eq_zero]
  intro e he hk
  exact hn ⟨p.1,p.2,oy hr hp,e,he,by simpa using hk⟩)
 have h0:∀us:bC Th,ig (λ_=>0) us=0:=λus=>by
  induction us with
  |nil=>rfl
  |cons p r ih=>show 0+_=0;rw [ih]
 rw [this,h0] at h
 omega
end counts
section inv
variable {S:aZ} {d k:Nat} {name:ByteArray} {t u:Th}
theorem Inv0.key (h:Inv0 S) {i:Int} (e:aH.get S.ax i=some t):i=(t.k:Int):=(h.ax i t e).1
theorem Inv0.live (h:Inv0 S) {i:Int} (e:aH.get S.ax i=some t):aS S.ax t:=by
 have:=h.key e
 subst this
 exact e
theorem jS {ax:bC Th} (h1:aS ax t) (h2:aS ax u) (e:t.k=u.k):t=u:=by
 grind [aS]
theorem Inv0.kind (h:Inv0 S) (hl:aS S.ax t):(ah S.O t.k).kind=t.kind:=(h.ob t hl).2.1
theorem Uh {x:ByteArray}:ja x x:=by unfold ja;simp
theorem pK.pN {es:jj Th} (h:pK es):pX es:=List.Pairwise.imp (λ{a b} gF e=>gF (by rw [e];exact Uh)) h
theorem Inv0.pN (h:Inv0 S) (hl:aS S.ax t):pX (ah S.O t.k).aq:=(h.sorted t hl).pN
theorem Inv0.bR (h:Inv0 S) (hd:aS S.ax u) (hl:bF name (ah S.O u.k).aq=some t):bW name/\aS S.ax t:=h.aq u hd _ (rf hl)
theorem Inv0.ne (h:Inv0 S) (hd:aS S.ax ⟨d,2⟩) (hl:bF name (ah S.O d).aq=some t):t.k≠d:=λe=>by
 have h1:=(h.bR hd hl).2
 have h2:t=⟨d,2⟩:=jS h1 hd e
 subst h2
 have h3:=(h.up _ hd d).2 ⟨rfl,hd,name,hl⟩
 obtain⟨dp,hdp⟩:=h.deep
 have:dp d<dp d:=hdp _ _ h3
 omega
theorem Inv0.free (h:Inv0 S) (hk:S.X.last<(k:Int)) (hl:aS S.ax t):t.k≠k:=λe=>by
 have:=(h.ax _ t hl).2.2
 subst e
 omega
theorem qN.of {o o':bV} (h:qN o) (e1:o'.mode=o.mode) (e2:o'.cM=o.cM) (e3:o'.cO=o.cO) (e4:iU o'.bH o'.bh) (e5:o'.kind=o.kind) (e6:o'.data=o.data\/o.kind=1) (e7:o'.aq=o.aq\/o.kind=2) (e8:o'.target=o.target):qN o':=
 ⟨e1 ▸ h.mode,e2 ▸ h.cM,e3 ▸ h.cO,e4,λhk=>by
  rw [e5] at hk
  rcases e6 with e|e
  ·rw [e];exact h.data hk
  ·exact KB e hk,λhk=>by
  rw [e5] at hk
  rcases e7 with e|e
  ·rw [e];exact h.aq hk
  exact KB e hk,by rw [e5,e8];exact h.target⟩
theorem Inv0.own (h:Inv0 S) {f:bV->bV} {sC lH:Int} {us':bC Th} (f1:∀o,(f o).id=o.id) (f2:∀o,(f o).kind=o.kind) (f3:∀o,(f o).aq=o.aq) (f4:∀o,(f o).up=o.up) (f5:∀o,(f o).aT=o.aT) (f6:∀o,(f o).aJ=o.aJ)
 (hm:∀t,aS S.ax t->t.k=k->qN (f (ah S.O k))) (ho:∀t,aS S.ax t->(ah (bD S.O k f) t.k).aQ=(hnd us' t.k:Int))
 (u1:aH.dM (aY us')) (u2:∀x∈aY us',1<=x/\x<=lH) (u3:(us'.length:Int)<=S.X.cH) (u4:0<=lH/\lH<=S.X.cH) (u5:∀h t,aH.get us' h=some t->aS S.ax t/\t.kind≠3)
 (hu:sC=(bytes S.ax (bD S.O k f):Int)/\sC<=140737488355328):Inv0 {S with X:={S.X with used:=sC},O:=bD S.O k f,us:=us',aL:=lH}:=by
 have g1:∀x,(ah (bD S.O k f) x).id=(ah S.O x).id:=λx=>eU (g:=bV.id) f1
 have g2:∀x,(ah (bD S.O k f) x).kind=(ah S.O x).kind:=λx=>eU (g:=bV.kind) f2
 have g3:∀x,(ah (bD S.O k f) x).aq=(ah S.O x).aq:=λx=>eU (g:=bV.aq) f3
 have g4:∀x,(ah (bD S.O k f) x).up=(ah S.O x).up:=λx=>eU (g:=bV.up) f4
 have g5:∀x,(ah (bD S.O k f) x).aT=(ah S.O x).aT:=λx=>eU (g:=bV.aT) f5
 have g6:∀x,(ah (bD S.O k f) x).aJ=(ah S.O x).aJ:=λx=>eU (g:=bV.aJ) f6
 refine {h with ob:=λt hl=>?_,mt:=λt hl=>?_,aq:=λt hl=>?_,sorted:=λt hl=>?_,dead:=λx hx=>?_,Bu:=λx hx=>by rw [g2];exact h.Bu x hx,total:=?_,aT:=λt hl=>?_,once:=λt hl=>?_,aQ:=ho,usr:=u1,wC:=u2,EP:=u3,aL:=u4,us:=u5,aJ:=λt hl=>?_,up:=λt hl e=>?_,deep:=?_,used:=hu}
 ·rw [g1,g2];exact h.ob t hl
 ·show qN (ah (bD S.O k f) t.k)
  by_cases e:t.k=k
  ·rw [e,iF];exact hm t hl e
  rw [jk e];exact h.mt t hl
 ·rw [g3];exact h.aq t hl
 ·rw [g3];exact h.sorted t hl
 ·rw [g3,g4];exact h.dead x hx
 ·have:tot S.ax (bD S.O k f)=tot S.ax S.O:=lG (λp _=>by rw [g3])
  show S.X.aq=(tot S.ax (bD S.O k f):Int)/\_
  rw [this];exact h.total
 ·show (ah (bD S.O k f) t.k).aT=(ny S.ax (bD S.O k f) t.k:Int)
  have:ny S.ax (bD S.O k f) t.k=ny S.ax S.O t.k:=Wx g3
  rw [g5,this];exact h.aT t hl
 ·rw [g5];exact h.once t hl
 ·rw [g6,g5,g3];exact h.aJ t hl
 ·grind [ah,bD,up,aS,bF]
 obtain⟨dp,hdp⟩:=h.deep
 exact⟨dp,λx e he=>hdp x e (by rw [g4] at he;exact he)⟩
def yZ (S:aZ) (t:Th):aZ:={S with X:={S.X with used:=oQ S.O S.X.used t},ax:=kg S.O S.ax t}
theorem Inv0.yZ (h:Inv0 S) (ht:aS S.ax t) (hf:∀u,aS S.ax u->u≠t->(ah S.O u.k).aJ=true->0<(ah S.O u.k).aQ):bB (Proofs.YtfececghhgeapaaGreatDoor.yZ S t):=by
 by_cases hF:uh S.O t
 ·have e1:Proofs.YtfececghhgeapaaGreatDoor.yZ S t={S with X:={S.X with used:=S.X.used-(ah S.O t.k).data.length},ax:=del (t.k:Int) S.ax}:=by
   unfold Proofs.YtfececghhgeapaaGreatDoor.yZ oQ kg
   rw [t8 hF,t8 hF,(h.ob t ht).1]
   split
   ·rfl
   rename_i e
   have:=(h.mt t ht).data (by rw [h.kind ht];exact e)
   rw [this]
   simp
  rw [e1]
  obtain⟨hg,cD⟩:=hF
  obtain⟨fC,hen⟩:=h.aJ t ht hg
  have kQ:∀x,aS (del (t.k:Int) S.ax) x↔aS S.ax x/\x.k≠t.k:=λx=>by
   grind [aS,wU]
  have hl0:ny S.ax S.O t.k=0:=by have:=h.aT t ht;omega
  have cF:∀x,aS S.ax x->∀e∈(ah S.O x.k).aq,e.2.k≠t.k:=λx hx e he hk=>by
   have:0<ny S.ax S.O t.k:=aiq (List.countP_pos_iff.2 ⟨e,he,by simpa using hk⟩) (sA (g:=λp=>(ah S.O p.2.k).aq.countP (λe=>decide (e.2.k=t.k))) hx)
   omega
  have hsum:∀q:ByteArray×Th->Bool,ig (λp=>(ah S.O p.2.k).aq.countP q) (del (t.k:Int) S.ax)=ig (λp=>(ah S.O p.2.k).aq.countP q) S.ax:=λq=>by
   have h1:=Io (g:=λp:Int×Th=>(ah S.O p.2.k).aq.countP q) h.fU ht
   grind
  refine {h with fU:=OJ h.fU,len:=?_,ax:=λi x e=>?_,ob:=λx hx=>h.ob x ((kQ x).1 hx).1,mt:=λx hx=>h.mt x ((kQ x).1 hx).1,aq:=λx hx e he=>?_,sorted:=λx hx=>h.sorted x ((kQ x).1 hx).1,dead:=λx hx=>?_,total:=?_,aT:=λx hx=>?_,once:=λx hx=>h.once x ((kQ x).1 hx).1,aQ:=λx hx=>h.aQ x ((kQ x).1 hx).1,us:=λi x e=>?_,aJ:=λx hx=>h.aJ x ((kQ x).1 hx).1,up:=λx hx e=>?_,used:=?_,full:=λx hx hg=>hf x ((kQ x).1 hx).1 (λe=>((kQ x).1 hx).2 (by rw [e])) hg}
  ·have h1:=tq h.fU (get_some ht)
   have h2:=h.len
   show (del (t.k:Int) S.ax).length<=4096
   omega
  ·have e:aH.get (del (t.k:Int) S.ax) i=some x:=e
   rw [wU] at e
   split at e
   ·cases e
   exact h.ax i x e
  ·have hx':=((kQ x).1 hx).1
   have h1:=h.aq x hx' e he
   exact⟨h1.1,(kQ _).2 ⟨h1.2,cF x hx' e he⟩⟩
  ·by_cases e:x=t.k
   ·subst e
    refine⟨hen,?_⟩
    cases hu:(ah S.O t.k).up with
    |none=>rfl
    |some y=>
      obtain⟨_,h2,n,h3⟩:=(h.up t ht y).1 hu
      exact KB rfl (cF _ h2 _ (rf h3))
   exact h.dead x (λy hy e2=>hx y ((kQ y).2 ⟨hy,λe3=>e (e2.symm.trans e3)⟩) e2)
  ·show S.X.aq=(tot (del (t.k:Int) S.ax) S.O:Int)/\_
   rw [x6,hsum,←x6];exact h.total
  ·show _=(ny (del (t.k:Int) S.ax) S.O x.k:Int)
   have:ny (del (t.k:Int) S.ax) S.O x.k=ny S.ax S.O x.k:=hsum _
   rw [this];exact h.aT x ((kQ x).1 hx).1
  ·obtain⟨h1,h2⟩:=h.us i x e
   refine⟨(kQ x).2 ⟨h1,λe2=>?_⟩,h2⟩
   have h3:=h.aQ t ht
   have h4:0<hnd S.us t.k:=aiq (by simp [e2]) (sA (g:=λp:Int×Th=>if p.2.k=t.k then 1 else 0) e)
   omega
  ·rw [h.up x ((kQ x).1 hx).1 e]
   constructor
   ·rintro⟨h1,h2,n,h3⟩
    refine⟨h1,(kQ _).2 ⟨h2,λe2=>?_⟩,n,h3⟩
    have e2:e=t.k:=e2
    rw [e2,hen] at h3;cases h3
   grind
  obtain⟨h1,h2⟩:=h.used
  have h3:ig (λp:Int×Th=>(ah S.O p.2.k).data.length) (del (t.k:Int) S.ax)+(ah S.O t.k).data.length=ig (λp:Int×Th=>(ah S.O p.2.k).data.length) S.ax:=Io (g:=λp:Int×Th=>(ah S.O p.2.k).data.length) h.fU ht
  grind [ah,bytes,del]
 have e1:Proofs.YtfececghhgeapaaGreatDoor.yZ S t=S:=by
  unfold Proofs.YtfececghhgeapaaGreatDoor.yZ oQ kg
  rw [nw hF,nw hF]
 rw [e1]
 refine {h with full:=λu hu hg=>?_}
 by_cases e:u=t
 ·subst e
  have h1:=h.aQ u hu
  have:¬(ah S.O u.k).aQ=0:=λe=>hF ⟨hg,e⟩
  omega
 exact hf u hu e hg
end inv
section facts
variable {S:aZ} {X:FM} {O:eu} {d k:Nat} {name:ByteArray} {t u:Th}
theorem eZ {α:Type} {g:bV->α} (h1:∀o es,g {o with aq:=es}=g o) (h2:∀o l,g {o with aT:=l}=g o) (h3:∀o a b,g {o with bH:=a,bh:=b}=g o):g (ah (bn X O d name t) k)=g (ah O k):=by
 unfold bn xY
 rw [eU (λo=>h2 o _),eU (λo=>h3 o _ _),eU (λo=>h1 o _)]
theorem mU {α:Type} {g:bV->α} (h1:∀o es,g {o with aq:=es}=g o) (h2:∀o l,g {o with aT:=l}=g o) (h3:∀o a b,g {o with bH:=a,bh:=b}=g o) (h4:∀o u,g {o with up:=u}=g o):g (ah (dV X O d name t) k)=g (ah O k):=by
 unfold dV xY
 rw [eU (λo=>h3 o _ _),Ih h1 h2 h4]
theorem Inv0.hX (h:Inv0 S):0<=S.X.aq/\S.X.aq<=1048576/\-1125899906842624<=S.X.used/\S.X.used<=1125899906842624/\0<=S.X.last/\S.X.last<=1125899906842624:=by
 have:=h.total;have:=h.used;have:=h.last
 omega
theorem Inv0.mw (h:Inv0 S) (hl:aS S.ax t):(ah S.O t.k).aq.length<=8192:=by
 have h1:=h.total
 have h2:(ah S.O t.k).aq.length<=tot S.ax S.O:=sA (g:=λp:Int×Th=>(ah S.O p.2.k).aq.length) hl
 omega
theorem Inv0.lb (h:Inv0 S) (hl:aS S.ax t):0<=(ah S.O t.k).aT/\(ah S.O t.k).aT<=8192:=by
 have h1:=h.total
 have h2:=h.aT t hl
 grind [ny,tot,Wy]
theorem aej {us:bC Th}:hnd us k<=us.length:=by
 have:hnd us k<=ig (λ_=>1) us:=Sl (λp _=>by split<;>omega)
 have h2:∀us:bC Th,ig (λ_=>1) us=us.length:=λus=>by
  induction us with
  |nil=>rfl
  |cons p r ih=>show 1+_=_;rw [ih,aix];omega
 rw [h2] at this;exact this
theorem Inv0.OO (h:Inv0 S) (hl:aS S.ax t):0<=(ah S.O t.k).aQ/\(ah S.O t.k).aQ<=1024:=by
 have h1:=h.aQ t hl
 have h2:hnd S.us t.k<=S.us.length:=aej
 have:=h.EP;have:=h.cH
 omega
theorem Inv0.OQ (h:Inv0 S) (hl:aS S.ax t):(ah S.O t.k).data.length<=1125899906842624:=by
 have h1:=h.used
 have h2:(ah S.O t.k).data.length<=bytes S.ax S.O:=sA (g:=λp:Int×Th=>(ah S.O p.2.k).data.length) hl
 omega
theorem Inv0.Ui (h:Inv0 S) (hl:aS S.ax t):(ah S.O t.k).data.length<=140737488355328:=by
 have h1:=h.used
 have h2:(ah S.O t.k).data.length<=bytes S.ax S.O:=sA (g:=λp:Int×Th=>(ah S.O p.2.k).data.length) hl
 omega
theorem Inv0.Wz (h:Inv0 S) (hl:aS S.ax t):(Lit.int .i64 (ah S.O t.k).id).wf=true:=by
 have h1:=h.ob t hl
 have h2:=h.ax _ t hl
 have h3:=h.last
 exact WalkArith.wf_i64 d5
theorem Inv0.vL (h:Inv0 S) (hd:aS S.ax ⟨d,2⟩) (name:ByteArray):bF name (ah S.O d).aq=none\/(∃k,bF name (ah S.O d).aq=some ⟨k,1⟩/\aS S.ax ⟨k,1⟩)\/(∃k,bF name (ah S.O d).aq=some ⟨k,2⟩/\aS S.ax ⟨k,2⟩)\/∃k,bF name (ah S.O d).aq=some ⟨k,3⟩/\aS S.ax ⟨k,3⟩:=by
 cases e:bF name (ah S.O d).aq with
 |none=>exact .inl rfl
 |some t=>
   obtain⟨k,kd⟩:=t
   have h1:=(h.bR hd e).2
   rcases (h.ob _ h1).2.2 with e2|e2|e2<;>subst e2
   all_goals grind
theorem Inv0.aek (h:Inv0 S) (i:Int):aH.get S.ax i=none\/(∃k,aH.get S.ax i=some ⟨k,1⟩/\aS S.ax ⟨k,1⟩)\/(∃k,aH.get S.ax i=some ⟨k,2⟩/\aS S.ax ⟨k,2⟩)\/∃k,aH.get S.ax i=some ⟨k,3⟩/\aS S.ax ⟨k,3⟩:=by
 cases e:aH.get S.ax i with
 |none=>exact .inl rfl
 |some t=>
   obtain⟨k,kd⟩:=t
   have h1:=h.live e
   rcases (h.ob _ h1).2.2 with e2|e2|e2<;>subst e2
   all_goals grind
theorem Inv0.hand (h:Inv0 S) (i:Int):aH.get S.us i=none\/(∃k,aH.get S.us i=some ⟨k,1⟩/\aS S.ax ⟨k,1⟩)\/∃k,aH.get S.us i=some ⟨k,2⟩/\aS S.ax ⟨k,2⟩:=by
 cases e:aH.get S.us i with
 |none=>exact .inl rfl
 |some t=>
   obtain⟨k,kd⟩:=t
   obtain⟨h1,h0⟩:=h.us i _ e
   rcases (h.ob _ h1).2.2 with e2|e2|e2
   all_goals grind
theorem Inv0.af9 (h:Inv0 S) (hd:aS S.ax ⟨d,2⟩) (hl:bF name (ah S.O d).aq=some t):1<=S.X.aq:=by
 have h1:=h.total
 have h2:0<ny S.ax S.O t.k:=qO hd hl
 grind [ny,tot,Wy]
theorem Inv0.GV (h:Inv0 S) (hd:aS S.ax ⟨d,2⟩) (hl:bF name (ah S.O d).aq=some t):0<=S.X.aq-1/\S.X.aq-1<=1048576/\-1125899906842624<=S.X.used/\S.X.used<=1125899906842624/\0<=S.X.last/\S.X.last<=1125899906842624:=by
 have:=h.af9 hd hl;have:=h.hX
 omega
theorem Ip {L:HL} {us:bC Th} {h:Int} (e:aH.get us h=none):aH.get (dQ L us) h=none:=by
 unfold dQ;rw [get_map,e];rfl
theorem Dw {L:HL} {us:bC Th} {h:Int} (e:aH.get us h=some t):aH.get (dQ L us) h=some (jl L t):=by
 unfold dQ;rw [get_map,e];rfl
theorem ze {L:HL} {us:bC Th} {h:Int} (hn:aH.get us h=none):pZ (dw (dQ L us)) (.int .i64 h) (some (jl L t))=dw (dQ L (ins h t us)):=by
 rw [KM (get_none.1 (Ip hn))]
 exact zc dw (KJ (jl L) h t us).symm
theorem WA {L:HL} {us:bC Th}:aH.aR (dQ L us)=aH.aR us:=by unfold aH.aR;rw [Ik]
theorem KP {TT:TypeId} {L:HL} {us:bC Th} {v:Value} {l:List HP} {b:Nat} {most aL:Int} (h:v=.tuple #[.int .i64 (aH.aR (dQ L us)),.int .i64 0]/\l=[.abs (iP TT b most (max aL (((dQ L us).length:Int)+1)) (ins (aH.aR (dQ L us)) (jl L t) (dQ L us)))]):v=.tuple #[.int .i64 (aH.aR us),.int .i64 0]/\l=[.abs (iP TT b most (max aL ((us.length:Int)+1)) (dQ L (ins (aH.aR us) t us)))]:=by
 rw [WA,wV] at h
 have e:ins (aH.aR us) (jl L t) (dQ L us)=dQ L (ins (aH.aR us) t us):=(KJ (jl L) (aH.aR us) t us).symm
 rw [e] at h
 exact h
theorem ZH {α:Type} {es:jj α} {n:ByteArray} (h:es=[]):bF n es=none:=by rw [h];rfl
end facts
section blocks
variable {O:eu} {L:HL} {k j:Nat} {t u:Th}
theorem Gc (hk:(ah O k).kind≠0) {F:Fp} {w:World} (h:(bp (fV O L)).h F w):∃cs T,w.heap[L.b k]?=some (.cells cs T (0,0)):=by
 obtain⟨G,g⟩:=bp.at k h
 rw [rL hk] at g
 exact⟨_,_,g.1⟩
theorem Sm (hk:(ah O k).kind≠0) (hj:(ah O j).kind≠0) {F:Fp} {w:World} (h:(bp (fV O L)).h F w) (e:L.b k=L.b j):k=j:=by
 apply aiy
 intro cF
 obtain⟨φ,h1,h2,_⟩:=h
 have g1:=h1 k
 have g2:=h1 j
 rw [rL hk] at g1
 rw [rL hj] at g2
 exact h2 k j cF (L.b k) ((g1.2 _).2 rfl) ((g2.2 _).2 e)
theorem KQ:Tryz.prog.underlying 190=some (.pointer 197):=d6
theorem ZI:Tryz.prog.underlying 184=some (.pointer 186):=d6
theorem ZJ:Tryz.prog.underlying 187=some (.pointer 189):=d6
end blocks
theorem ZK {s:ByteArray}:0<=Lib.indexByte s.data.toList ((0:Int).toNat.toUInt8)↔¬qE s:=by
 have hge:=Lib.indexByte_ge s.data.toList ((0:Int).toNat.toUInt8)
 constructor
 ·intro h hn
  obtain⟨o,ho⟩:=Int.eq_ofNat_of_zero_le h
  have h1:=(Lib.indexByte_some ho).1
  obtain⟨h2,h3⟩:=ED h1
  exact hn o h2 h3
 intro hn
 apply aiy
 intro fX
 refine hn (λj hj h0=>Lib.indexByte_none (show Lib.indexByte s.data.toList ((0:Int).toNat.toUInt8) = -1 by omega) j ?_)
 rw [xC hj]
 congr 1
 apply aiI.1
 exact h0
theorem Rf {β:Bs} (s:ByteArray):aU Tryz.prog β 165 #[.string s,.int .u8 0] [] (λv l=>(∃x:Int,v=.int .i64 x/\(0<=x↔¬qE s))/\l=[]):=
 λ_ w hS=>(Tryz.strings_IndexByte s 0 w).mono λ_ _ ⟨h1,h2⟩=>⟨_,[],h1,⟨⟨_,rfl,ZK⟩,rfl⟩,h2 ▸ hS⟩
section ptr
variable {O:eu} {L:HL} {k j:Nat}
theorem ZL:∃j,Tryz.prog.info? 197=some j/\j.size≠0:=by
 have h:(match Tryz.prog.info? 197 with|some j=>j.size != 0|none=>false)=true:=d6
 grind
theorem WB {w:World} {o:Oper} {ev:Operand->Value} {x y:Operand} (ho:o.op=.binOp .eql 190 x y 190) (hx:ev x=.pointer (some ⟨L.b k,0,none⟩)) (hy:ev y=.pointer (some ⟨L.b j,0,none⟩)) (hk:(ah O k).kind≠0) (hj:(ah O j).kind≠0) {F:Fp} (hF:(bp (fV O L)).h F w) :
 sB Tryz.prog ev o w (.bool (decide (k=j))) w:=by
 obtain⟨dst,op,type,pos,after,guard⟩:=o
 cases ho
 refine .inl ?_
 simp only [execOp,hx,hy]
 obtain⟨ca,ta,ha⟩:=Gc hk hF
 obtain⟨cb,tb,hb⟩:=Gc hj hF
 obtain⟨i,hi,eV⟩:=ZL
 have h1:(binOp .eql 190 (.pointer (some ⟨L.b k,0,none⟩)) (.pointer (some ⟨L.b j,0,none⟩))).run Tryz.prog w=.ok (.bool (decide (k=j))) w:=by
  by_cases e:k=j
  ·subst e
   rw [run_eql_ptr_same _ _ KQ hi]
   simp
  rw [run_eql_ptr_other _ KQ hi eV (λh=>e (Sm hk hj hF (zc Addr.block h))) ha hb]
  simp [e]
 simp [go_sem,eqGuard,h1]
def KR (tp te:TypeId):Prop:=Tryz.prog.underlying tp=some (.pointer te)/\(∃i,Tryz.prog.info? tp=some i/\i.comparable=true)/\∃j,Tryz.prog.info? te=some j/\j.size≠0
theorem KS {tp te:TypeId} (h1:Tryz.prog.underlying tp=some (.pointer te)) (h2:(match Tryz.prog.info? tp with|some j=>j.comparable|none=>false)=true) (h3:(match Tryz.prog.info? te with|some j=>j.size != 0|none=>false)=true):KR tp te:=by
 grind [KR]
theorem ael:KR 184 186:=KS ZI d6 d6
theorem aga:KR 190 197:=KS KQ d6 d6
theorem aem:KR 187 189:=KS ZJ d6 d6
theorem Iq {tp te:TypeId} (hT:KR tp te) {w:World} {o:Oper} {ev:Operand->Value} {x y:Operand} (ho:o.op=.binOp .eql 175 x y 175) (hx:ev x=.iface tp (.pointer (some ⟨L.b k,0,none⟩))) (hy:ev y=.iface tp (.pointer (some ⟨L.b j,0,none⟩))) (hk:(ah O k).kind≠0) (hj:(ah O j).kind≠0) {F:Fp} (hF:(bp (fV O L)).h F w) :
 sB Tryz.prog ev o w (.bool (decide (k=j))) w:=by
 obtain⟨dst,op,type,pos,after,guard⟩:=o
 cases ho
 refine .inl ?_
 simp only [execOp,hx,hy]
 obtain⟨ca,ta,ha⟩:=Gc hk hF
 obtain⟨cb,tb,hb⟩:=Gc hj hF
 obtain⟨g1,⟨i,hi,hc⟩,j',hj',eV⟩:=hT
 have h1:(binOp .eql 175 (.iface tp (.pointer (some ⟨L.b k,0,none⟩))) (.iface tp (.pointer (some ⟨L.b j,0,none⟩)))).run Tryz.prog w=.ok (.bool (decide (k=j))) w:=by
  by_cases e:k=j
  ·subst e
   rw [run_eql_iface_ptr_same _ _ Tryz.underlying175 g1 hi hc hj']
   simp
  rw [run_eql_iface_ptr_other _ Tryz.underlying175 g1 hi hc hj' eV (λh=>e (Sm hk hj hF (zc Addr.block h))) ha hb]
  simp [e]
 simp [go_sem,eqGuard,h1]
end ptr
structure Bv (O:eu) (ax us:bC Th) (k:Nat):Prop where
 up:∀x,(ah O x).up≠some k
 aq:∀x,∀e∈(ah O x).aq,e.2.k≠k
 ax:∀p∈ax,p.2.k≠k
 us:∀p∈us,p.2.k≠k
section fresh
variable {S:aZ} {O:eu} {ax us:bC Th} {L L':HL} {k b m c:Nat} {A:Option Addr} {o:bV} {t:Th}
theorem tv (h:Inv0 S):(dx S.X:Int)=S.X.last+1:=by
 have:=h.last
 unfold dx
 omega
theorem Inv0.EQ (h:Inv0 S) (ht:aS S.ax t):t.k≠dx S.X:=h.free (by have:=tv h;omega) ht
theorem Inv0.KT (h:Inv0 S) (hk:S.X.last<(k:Int)):Bv S.O S.ax S.us k:=by
 have key:∀x,(∃t,aS S.ax t/\t.k=x)\/(ah S.O x).aq=[]/\(ah S.O x).up=none:=λx=>by
  by_cases hx:∃t,aS S.ax t/\t.k=x
  ·exact .inl hx
  exact .inr (h.dead x (λt ht e=>hx ⟨t,ht,e⟩))
 refine⟨λx e=>?_,λx e he=>?_,λp hp=>(h.free hk (h.live (oy h.fU hp))),λp hp=>(h.free hk (h.us _ _ (oy h.usr hp)).1)⟩
 ·rcases key x with ⟨t,ht,rfl⟩|hx
  ·obtain⟨_,h2,_⟩:=(h.up t ht _).1 e
   exact h.free hk h2 rfl
  rw [hx.2] at e;cases e
 rcases key x with ⟨t,ht,rfl⟩|hx
 ·exact h.free hk (h.aq t ht e he).2
 rw [hx.1] at he;cases he
theorem Inv0.fresh (h:Inv0 S):Bv S.O S.ax S.us (dx S.X):=h.KT (by have:=tv h;omega)
theorem Gd (hL:L'=L.put k b m A c) {x:Nat} (h:x≠k):L'.b x=L.b x:=by subst hL;exact nw h
theorem OU (hL:L'=L.put k b m A c):L'.b k=b:=by subst hL;exact t8 rfl
theorem OV (hL:L'=L.put k b m A c):L'.m k=m:=by subst hL;exact t8 rfl
theorem WC (hL:L'=L.put k b m A c) (h:t.k≠k):jl L' t=jl L t:=by unfold jl;rw [Gd hL h]
theorem zf (hL:L'=L.put k b m A c) (kind:Int):jl L' ⟨k,kind⟩=.iface (thT kind) (.pointer (some ⟨b,0,none⟩)):=by unfold jl;rw [OU hL]
theorem pY (hL:L'=L.put k b m A c) (h:∀p∈us,p.2.k≠k):dQ L' us=dQ L us:=aiG (λp hp=>by rw [WC hL (h p hp)])
theorem ZM {es:jj Th} {n:ByteArray} (h:∀e∈es,e.2.k≠k) (e:bF n es=some t):t.k≠k:=h _ (rf e)
theorem ZN (hL:L'=L.put k b m A c) {es:jj Th} (h:∀e∈es,e.2.k≠k):nI L' es=nI L es:=by
 unfold nI
 congr 1
 funext n
 cases e:bF n es with
 |none=>rfl
 |some t=>exact zc some (WC hL (ZM h e))
theorem acZ (hL:L'=L.put k b m A c) (hf:Bv O ax us k) {x:Nat} (h:x≠k):fV O L' x=fV O L x:=by
 have e1:=Gd hL h
 have e2:l5 L' x (ah O x)=l5 L x (ah O x):=by
  unfold l5 FY
  have h1:L8 L' (ah O x).up=L8 L (ah O x).up:=by
   cases hu:(ah O x).up with
   |none=>rfl
   |some d=>show Value.pointer _=Value.pointer _;rw [Gd hL (λe=>hf.up x (by rw [hu,e]))]
  rw [h1]
  subst hL
  simp only [HL.put,nw h]
 unfold fV
 rw [e1,e2]
theorem Sn (hL:L'=L.put k b m A c) (hf:Bv O ax us k) {x:Nat} (h:x≠k):iE O L' x=iE O L x:=by
 unfold iE
 rw [ZN hL (hf.aq x)]
 subst hL
 simp only [HL.put,nw h]
theorem KU (hL:L'=L.put k b m A c) {x:Nat} (h:x≠k):eY O L' x=eY O L x:=by
 unfold eY
 subst hL
 simp only [HL.put,nw h]
end fresh
theorem zZ {O O':eu} {L:HL} (h1:∀x,(ah O' x).data=(ah O x).data) (h2:∀x,(ah O' x).kind=(ah O x).kind):eY O' L=eY O L:=by
 funext x
 unfold eY
 rw [h1,h2]
theorem oW {X:FM} {O:eu} {L:HL} {d:Nat} {name:ByteArray} {t:Th}:eY (dV X O d name t) L=eY O L:=
 zZ (λ_=>mU (g:=bV.data) (λ_ _=>rfl) (λ_ _=>rfl) (λ_ _ _=>rfl) (λ_ _=>rfl)) (λ_=>Ra)
theorem qf {X:FM} {O:eu} {L:HL} {d:Nat} {name:ByteArray} {t:Th}:eY (bn X O d name t) L=eY O L:=
 zZ (λ_=>eZ (g:=bV.data) (λ_ _=>rfl) (λ_ _=>rfl) (λ_ _ _=>rfl)) (λ_=>fW)
theorem wW {α:Type} {g:bV->α} {O:eu} {k j:Nat} (h:∀o b,g {o with aJ:=b}=g o):g (ah (tu O j) k)=g (ah O k):=eU (f:=λo=>{o with aJ:=true}) (λo=>h o true)
theorem ZO {O:eu} {L:HL} {k:Nat}:eY (tu O k) L=eY O L:=zZ (λ_=>wW (g:=bV.data) (λ_ _=>rfl)) (λ_=>wW (g:=bV.kind) (λ_ _=>rfl))
theorem uE {S:aZ} {L:HL} {d:Nat} {name:ByteArray} {t:Th}:eY (bg S d name t).O L=eY S.O L:=by
 unfold bg
 simp only
 split
 ·exact ZO.trans qf
 exact qf
theorem Jw {S:aZ} {d k:Nat} {name:ByteArray} {t:Th}:(ah (bg S d name t).O k).kind=(ah S.O k).kind:=by
 unfold bg
 simp only
 split
 ·exact (wW (g:=bV.kind) (λ_ _=>rfl)).trans fW
 exact fW
theorem x7 {X:FM} {O:eu} {ax:bC Th} {d:Nat} {name:ByteArray} (h:iB X O ax d name=0):bF name (ah O d).aq=none:=by
 grind [iB]
theorem Cp {X:FM} {O:eu} {ax:bC Th} {d:Nat} {name:ByteArray} (h:iB X O ax d name=0):Room X ax:=by
 grind [iB]
theorem Cq {X:FM} {O:eu} {ax:bC Th} {d:Nat} {name:ByteArray} (h:iB X O ax d name=0):X.last<1099511627776:=(Cp h).2.1
section sat
variable {β:Bs} {l l':List HP} {w:World} {i j k b m c:Nat} {O:eu} {us:bC Th} {idx' us':bC Th} {L L':HL} {cs:List Value} {T:TypeId} {ix:List Nat} {A:Option Addr} {o:bV} {R R':Nat->eG}
theorem aP.less {p p':HP} (h:aP β l w) (hp:l[i]?=some p) (hs:∀F,p.h F w->∃F',p'.h F' w/\∀x,F' x->F x):aP β (l.set i p') w:=
 h.set hp (λF hF=>let ⟨F',h1,h2⟩:=hs F hF;⟨F',h1,⟨cL.refl _ _,λk hk=>.inl (h2 k hk)⟩⟩)
theorem aP.WD (h:aP β l w) (hp:l[i]?=some (.abs (bp R))) (k:Nat) (hR:∀x,x≠k->R' x=R x) (ha:R' k=eG.none):aP β (l.set i (.abs (bp R'))) w:=by
 refine h.less hp ?_
 rintro F ⟨φ,h1,h2,h3⟩
 refine⟨λx=>∃i,i≠k/\φ i x,⟨λi=>if i=k then λ_=>False else φ i,λi=>?_,λi j cF x hx hy=>?_,λx=>⟨λ⟨i,cF,hx⟩=>⟨i,by simpa [cF] using hx⟩,λ⟨i,hx⟩=>?_⟩⟩,λx ⟨i,_,hx⟩=>(h3 x).2 ⟨i,hx⟩⟩
 ·by_cases e:i=k
  ·subst e;simp only [if_true];rw [ha];exact λ_ h=>h
  grind
 ·by_cases e1:i=k
  ·simp [e1] at hx
  by_cases e2:j=k
  ·simp [e2] at hy
  exact h2 i j cF x (by simpa [e1] using hx) (by simpa [e2] using hy)
 by_cases e1:i=k
 ·simp [e1] at hx
 exact⟨i,e1,by simpa [e1] using hx⟩
theorem aP.Ge (h:aP β l w) (hL:L'=L.put k b m A c) (hf:Bv O idx' us' k) (hp:l[i]?=some (.abs (bp (fV O L)))) (hq:l[j]?=some (.aD b cs T)) (hd:bU (i::j::ix)=true) (hl:cT l ix=some l') (h0:o.kind≠0) (hc:l5 L' k o=cs) (hT:yG o.kind=T):aP β (.abs (bp (fV (bD O k (λ_=>o)) L'))::l') w:=by
 refine h.yX (a:=KF b cs T) hp hq (λ_ _ h=>h) hd hl k (λx hx=>?_) (by grind [FZ,OU])
 rw [Jk hx,acZ hL hf hx]
theorem aP.abS (h:aP β l w) (hL:L'=L.put k b m A c) (hf:Bv O idx' us' k) (hp:l[i]?=some (.abs (bp (iE O L)))) (hq:l[j]?=some (.abs (bM Tryz.prog 9 m (λ_=>none) 0))) (hd:bU (i::j::ix)=true) (hl:cT l ix=some l') (h2:o.kind=2) (he:o.aq=[]):aP β (.abs (bp (iE (bD O k (λ_=>o)) L'))::l') w:=by
 refine h.yX hp hq (λ_ _ h=>h) hd hl k (λx hx=>by rw [Jl hx,Sn hL hf hx]) ?_
 grind [uX,iF,Zu,OV]
theorem aP.Jx (h:aP β l w) (hL:L'=L.put k b m A c) (hf:Bv O idx' us' k) (hp:l[i]?=some (.abs (bp (iE O L)))) (h2:o.kind≠2):aP β (l.set i (.abs (bp (iE (bD O k (λ_=>o)) L')))) w:=by
 refine h.WD hp k (λx hx=>by rw [Jl hx,Sn hL hf hx]) ?_
 unfold iE;rw [iF,nw h2]
theorem aP.Jy (h:aP β l w) (hL:L'=L.put k b m A c) (hp:l[i]?=some (.abs (bp (eY O L)))) (h1:o.kind≠1):aP β (l.set i (.abs (bp (eY (bD O k (λ_=>o)) L')))) w:=by
 refine h.WD hp k (λx hx=>by rw [Jm hx,KU hL hx]) ?_
 unfold eY;rw [iF,nw h1]
theorem aP.agb (h:aP β l w) (hL:L'=L.put k b m none 0) (hp:l[i]?=some (.abs (bp (eY O L)))) (hq:l[j]?=some (.abs (aI 5 1 none 0 0 []))) (hd:bU (i::j::ix)=true) (hl:cT l ix=some l') (h1:o.kind=1) (he:o.data=[]):aP β (.abs (bp (eY (bD O k (λ_=>o)) L'))::l') w:=by
 refine h.yX hp hq (λ_ _ h=>h) hd hl k (λx hx=>by rw [Jm hx,KU hL hx]) ?_
 rw [zU (by rw [iF];exact h1),iF,he]
 subst hL
 simp only [HL.put,if_true]
 rfl
end sat
section inv
variable {S:aZ} {d:Nat} {name:ByteArray} {t:Th} {O':eu}
theorem pK.del {es:jj Th} (h:pK es):pK (kU name es):=ai5 _ h
theorem Jz {x y:ByteArray}:¬ja x y↔vA y x<0:=by
 unfold ja
 rw [Ek,Lib.toList_data,Lib.toList_data]
 have h1:=@LK x.data.toList y.data.toList
 grind [LP,En,vA]
theorem pK.ins {es:jj Th} (h:pK es) (hn:bF name es=none):pK (kT name t es):=by
 induction es with
 |nil=>exact List.pairwise_singleton ..
 |cons e r ih=>
   obtain⟨h1,h2⟩:=ail.1 h
   have j3:=Dr.1 hn
   unfold kT
   split
   ·rename_i fX
    refine ail.2 ⟨λx hx=>?_,h⟩
    grind [Jz,I6]
   rename_i dP
   refine ail.2 ⟨λx hx=>?_,ih h2 (Dr.2 (λx hx=>j3 x (T4 _ hx)))⟩
   grind [Ie,Jz,vA,En,LP]
theorem Inv0.cut (hI:Inv0 S) (hd:aS S.ax ⟨d,2⟩) (hl:bF name (ah S.O d).aq=some t) {g:Bool}
 (hO:∀k,ah O' k=if k=d then {ah S.O d with aq:=kU name (ah S.O d).aq,bH:=S.X.cS,bh:=S.X.cZ} else if k=t.k then {ah S.O k with aT:=(ah S.O k).aT-1,aJ:=g,up:=none} else ah S.O k)
 (hg:g=(ah S.O t.k).aJ\/(ah S.O t.k).aT-1=0/\(t.kind=2->(ah S.O t.k).aq=[])):Inv0 {S with X:={S.X with aq:=S.X.aq-1},O:=O' }:=by
 have cF:=hI.ne hd hl
 have ht:=(hI.bR hd hl).2
 have oD:ah O' d={ah S.O d with aq:=kU name (ah S.O d).aq,bH:=S.X.cS,bh:=S.X.cZ}:=by rw [hO,t8 rfl]
 have oT:ah O' t.k={ah S.O t.k with aT:=(ah S.O t.k).aT-1,aJ:=g,up:=none}:=by rw [hO,nw cF,t8 rfl]
 have oX:∀x,x≠d->x≠t.k->ah O' x=ah S.O x:=gn
 have GW:∀{α:Type} (G:bV->α),(∀o es a b,G {o with aq:=es,bH:=a,bh:=b}=G o)->(∀o l g,G {o with aT:=l,aJ:=g,up:=none}=G o)->∀x,G (ah O' x)=G (ah S.O x):=λG h1 h2 x=>by
  grind
 have fId:=GW bV.id (λ_ _ _ _=>rfl) (λ_ _ _=>rfl)
 have JA:=GW bV.kind (λ_ _ _ _=>rfl) (λ_ _ _=>rfl)
 have Uj:=GW bV.data (λ_ _ _ _=>rfl) (λ_ _ _=>rfl)
 have fOp:=GW bV.aQ (λ_ _ _ _=>rfl) (λ_ _ _=>rfl)
 have fE:∀x,x≠d->(ah O' x).aq=(ah S.O x).aq:=λx hx=>by
  grind
 have Md:(ah O' d).aq=kU name (ah S.O d).aq:=by rw [oD]
 have fC:0<ny S.ax S.O t.k:=qO hd hl
 have fX:=hI.aT t ht
 have hky:∀i u,aH.get S.ax i=some u->i=(u.k:Int):=λi u e=>hI.key e
 have hsum:∀q:ByteArray×Th->Bool,_:=λq=>OM (q:=q) hI.fU hd hky fE Md (hI.pN hd) hl
 have ZP:∀x,ny S.ax O' x+(if t.k=x then 1 else 0)=ny S.ax S.O x:=λx=>by
  have h1:=hsum (λe=>decide (e.2.k=x))
  simp only [decide_eq_true_eq] at h1
  exact h1
 refine {hI with ob:=λx hx=>?_,mt:=λx hx=>?_,aq:=λx hx e he=>?_,sorted:=λx hx=>?_,dead:=λx hx=>?_,Bu:=λx hx=>(JA x).trans (hI.Bu x hx),total:=?_,aT:=λx hx=>?_,once:=λx hx hk=>?_,aQ:=λx hx=>?_,aJ:=λx hx oz=>?_,up:=λx hx e=>?_,deep:=?_,used:=?_}
 ·show (ah O' x.k).id=_/\(ah O' x.k).kind=_/\_
  rw [fId,JA];exact hI.ob x hx
 ·show qN (ah O' x.k)
  have hm:=hI.mt x hx
  by_cases e:x.k=d
  ·rw [e] at hm ⊢
   rw [oD]
   exact hm.of rfl rfl rfl hI.now rfl (.inl rfl) (.inr (hI.kind hd)) rfl
  by_cases e2:x.k=t.k
  ·rw [e2] at hm ⊢
   rw [oT]
   exact hm.of rfl rfl rfl hm.time rfl (.inl rfl) (.inl rfl) rfl
  rw [oX _ e e2];exact hm
 ·by_cases e1:x.k=d
  ·have he:e∈(ah O' x.k).aq:=he
   rw [e1,Md] at he
   exact hI.aq _ hd e (OL he).1
  have he:e∈(ah O' x.k).aq:=he
  rw [fE _ e1] at he
  exact hI.aq x hx e he
 ·show pK (ah O' x.k).aq
  by_cases e1:x.k=d
  ·rw [e1,Md];exact pK.del (hI.sorted _ hd)
  rw [fE _ e1];exact hI.sorted x hx
 ·show (ah O' x).aq=[]/\(ah O' x).up=none
  rw [oX x (λe=>hx _ hd e.symm) (λe=>hx t ht e.symm)]
  exact hI.dead x hx
 ·have h1:=hsum (λ_=>true)
  have h2:=hI.total
  grind [x6,tot]
 ·show (ah O' x.k).aT=(ny S.ax O' x.k:Int)
  have h1:=ZP x.k
  have h2:=hI.aT x hx
  grind
 ·show (ah O' x.k).aT<=1
  have h1:=hI.once x hx hk
  grind
 ·show (ah O' x.k).aQ=_
  rw [fOp];exact hI.aQ x hx
 ·have oz:(ah O' x.k).aJ=true:=oz
  show (ah O' x.k).aT=0/\(ah O' x.k).aq=[]
  by_cases e2:x.k=t.k
  ·rw [e2] at oz ⊢
   rw [fE _ cF,oT]
   rw [oT] at oz
   show (ah S.O t.k).aT-1=0/\_
   rcases hg with h|⟨h1,h2⟩
   ·have oz:g=true:=oz
    rw [h] at oz
    have:=(hI.aJ t ht oz).1
    omega
   refine⟨h1,?_⟩
   by_cases hk:t.kind=2
   ·exact h2 hk
   exact (hI.mt t ht).aq (by rw [hI.kind ht];exact hk)
  by_cases e:x.k=d
  ·rw [e,oD] at oz
   have:=(hI.aJ _ hd oz).2
   rw [ZH this] at hl;cases hl
  rw [oX _ e e2] at oz ⊢;exact hI.aJ x hx oz
 ·show (ah O' x.k).up=some e↔x.kind=2/\aS S.ax ⟨e,2⟩/\∃n,bF n (ah O' e).aq=some x
  by_cases e2:x.k=t.k
  ·have Me:x=t:=jS hx ht e2
   subst Me
   rw [oT]
   constructor
   ·intro h;cases h
   rintro⟨hk,dP,n,hn⟩
   have h1:=hI.once x hx hk
   grind [ny,qO,aS,bF,ah,kU,up]
  have h1:(ah O' x.k).up=(ah S.O x.k).up:=by
   grind
  have h2:∀n,bF n (ah O' e).aq=some x↔bF n (ah S.O e).aq=some x:=λn=>by
   grind [xW]
  rw [h1,hI.up x hx e]
  simp only [h2]
 ·obtain⟨dp,hdp⟩:=hI.deep
  refine⟨dp,λx e hx=>?_⟩
  grind
 have:bytes S.ax O'=bytes S.ax S.O:=lG (λp _=>by rw [Uj])
 show S.X.used=(bytes S.ax O':Int)/\_
 rw [this];exact hI.used
theorem Uk {O O1:eu} {s k:Nat} (h:∀x e,(ah O1 x).up=some e->(ah O x).up=some e) (hb:su O1 s k):su O s k:=by
 induction hb with
 |here=>exact .here
 |up hu _ ih=>exact .up (h _ _ hu) ih
theorem Mf {O:eu} {s k:Nat}:su O s k↔k=s\/∃e,(ah O k).up=some e/\su O s e:=by
 constructor
 ·rintro (_|⟨h1,h2⟩)
  ·exact .inl rfl
  exact .inr ⟨_,h1,h2⟩
 rintro (h|⟨e,h1,h2⟩)
 ·subst h;exact .here
 exact .up h1 h2
theorem Inv0.put (hI:Inv0 S) (hd:aS S.ax ⟨d,2⟩) (nB:(ah S.O d).aJ=false) (hn:bF name (ah S.O d).aq=none) (hgn:bW name) (ht:aS S.ax t) (Sh:(ah S.O t.k).aJ=false) (aen:t.kind=2->(ah S.O t.k).aT=0/\¬su S.O t.k d) (htd:t.k≠d) (hroom:S.X.aq<8192) {ta tb:Int} (htm:iU ta tb)
 (hO:∀k,ah O' k=if k=d then {ah S.O d with aq:=kT name t (ah S.O d).aq,bH:=ta,bh:=tb} else if k=t.k then {ah S.O k with aT:=(ah S.O k).aT+1,up:=if t.kind=2 then some d else (ah S.O k).up} else ah S.O k) :
 Inv0 {S with X:={S.X with aq:=S.X.aq+1},O:=O' }:=by
 have cF:=htd
 have oD:ah O' d={ah S.O d with aq:=kT name t (ah S.O d).aq,bH:=ta,bh:=tb}:=by rw [hO,t8 rfl]
 have oT:ah O' t.k={ah S.O t.k with aT:=(ah S.O t.k).aT+1,up:=if t.kind=2 then some d else (ah S.O t.k).up}:=by rw [hO,nw cF,t8 rfl]
 have oX:∀x,x≠d->x≠t.k->ah O' x=ah S.O x:=gn
 have GW:∀{α:Type} (G:bV->α),(∀o es a b,G {o with aq:=es,bH:=a,bh:=b}=G o)->(∀o l u,G {o with aT:=l,up:=u}=G o)->∀x,G (ah O' x)=G (ah S.O x):=λG h1 h2 x=>by
  grind
 have fId:=GW bV.id (λ_ _ _ _=>rfl) (λ_ _ _=>rfl)
 have JA:=GW bV.kind (λ_ _ _ _=>rfl) (λ_ _ _=>rfl)
 have Uj:=GW bV.data (λ_ _ _ _=>rfl) (λ_ _ _=>rfl)
 have fOp:=GW bV.aQ (λ_ _ _ _=>rfl) (λ_ _ _=>rfl)
 have fG:=GW bV.aJ (λ_ _ _ _=>rfl) (λ_ _ _=>rfl)
 have fE:∀x,x≠d->(ah O' x).aq=(ah S.O x).aq:=λx hx=>by
  grind
 have Md:(ah O' d).aq=kT name t (ah S.O d).aq:=by rw [oD]
 have hky:∀i u,aH.get S.ax i=some u->i=(u.k:Int):=λi u e=>hI.key e
 have hsum:∀q:ByteArray×Th->Bool,_:=λq=>ZG (q:=q) hI.fU hd hky fE Md
 have ZP:∀x,ny S.ax O' x=ny S.ax S.O x+(if t.k=x then 1 else 0):=λx=>by
  have h1:=hsum (λe=>decide (e.2.k=x))
  simp only [decide_eq_true_eq] at h1
  exact h1
 have fX:=hI.aT t ht
 have ah3:t.kind=2->∀e n,aS S.ax ⟨e,2⟩->bF n (ah S.O e).aq≠some t:=λhk e n dP h=>by
  have h1:0<ny S.ax S.O t.k:=qO dP h
  have:=(aen hk).1
  omega
 refine {hI with ob:=λx hx=>?_,mt:=λx hx=>?_,aq:=λx hx e he=>?_,sorted:=λx hx=>?_,dead:=λx hx=>?_,Bu:=λx hx=>(JA x).trans (hI.Bu x hx),total:=?_,aT:=λx hx=>?_,once:=λx hx hk=>?_,aQ:=λx hx=>?_,aJ:=λx hx oz=>?_,up:=λx hx e=>?_,deep:=?_,used:=?_}
 ·show (ah O' x.k).id=_/\(ah O' x.k).kind=_/\_
  rw [fId,JA];exact hI.ob x hx
 ·show qN (ah O' x.k)
  have hm:=hI.mt x hx
  by_cases e:x.k=d
  ·rw [e] at hm ⊢
   rw [oD]
   exact hm.of rfl rfl rfl htm rfl (.inl rfl) (.inr (hI.kind hd)) rfl
  by_cases e2:x.k=t.k
  ·rw [e2] at hm ⊢
   rw [oT]
   exact hm.of rfl rfl rfl hm.time rfl (.inl rfl) (.inl rfl) rfl
  rw [oX _ e e2];exact hm
 ·have he:e∈(ah O' x.k).aq:=he
  by_cases e1:x.k=d
  ·rw [e1,Md] at he
   rcases Ie.1 he with rfl|he
   ·exact⟨hgn,ht⟩
   exact hI.aq _ hd e he
  rw [fE _ e1] at he
  exact hI.aq x hx e he
 ·show pK (ah O' x.k).aq
  by_cases e1:x.k=d
  ·rw [e1,Md];exact pK.ins (hI.sorted _ hd) hn
  rw [fE _ e1];exact hI.sorted x hx
 ·show (ah O' x).aq=[]/\(ah O' x).up=none
  rw [oX x (λe=>hx _ hd e.symm) (λe=>hx t ht e.symm)]
  exact hI.dead x hx
 ·have h1:=hsum (λ_=>true)
  have h2:=hI.total
  grind [x6,tot]
 ·show (ah O' x.k).aT=(ny S.ax O' x.k:Int)
  have h1:=ZP x.k
  have h2:=hI.aT x hx
  grind
 ·show (ah O' x.k).aT<=1
  have h1:=hI.once x hx hk
  grind [jS,ah]
 ·show (ah O' x.k).aQ=_
  rw [fOp];exact hI.aQ x hx
 ·have oz:(ah O' x.k).aJ=true:=oz
  rw [fG] at oz
  show (ah O' x.k).aT=0/\(ah O' x.k).aq=[]
  by_cases e2:x.k=t.k
  ·rw [e2,Sh] at oz;cases oz
  by_cases e:x.k=d
  ·rw [e,nB] at oz;cases oz
  rw [oX _ e e2];exact hI.aJ x hx oz
 ·show (ah O' x.k).up=some e↔x.kind=2/\aS S.ax ⟨e,2⟩/\∃n,bF n (ah O' e).aq=some x
  by_cases e2:x.k=t.k
  ·have Me:x=t:=jS hx ht e2
   subst Me
   rw [oT]
   show (if x.kind=2 then some d else (ah S.O x.k).up)=some e↔_
   by_cases hk:x.kind=2
   ·rw [t8 hk]
    constructor
    ·intro h
     cases h
     exact⟨hk,hd,name,by rw [Md,EI hn,t8 rfl]⟩
    grind
   rw [nw hk,hI.up x hx e]
   grind
  have h1:(ah O' x.k).up=(ah S.O x.k).up:=by
   grind
  have h2:∀n,bF n (ah O' e).aq=some x↔bF n (ah S.O e).aq=some x:=λn=>by
   grind [EI]
  rw [h1,hI.up x hx e]
  simp only [h2]
 ·obtain⟨dp,hdp⟩:=hI.deep
  by_cases hk:t.kind=2
  ·obtain⟨hl0,hnb⟩:=aen hk
   have ah4:(ah S.O t.k).up=none:=by
    cases hu:(ah S.O t.k).up with
    |none=>rfl
    |some e=>
      grind [aS,ah,bF,bW,iU,kT,up]
   refine⟨λx=>if su S.O t.k x then dp x+dp d+1 else dp x,λx e hx=>?_⟩
   grind [ah,up,Mf]
  refine⟨dp,λx e hx=>?_⟩
  grind
 have:bytes S.ax O'=bytes S.ax S.O:=lG (λp _=>by rw [Uj])
 show S.X.used=(bytes S.ax O':Int)/\_
 rw [this];exact hI.used
end inv
end
end Go.Proofs.YtfececghhgeapaaGreatDoor
