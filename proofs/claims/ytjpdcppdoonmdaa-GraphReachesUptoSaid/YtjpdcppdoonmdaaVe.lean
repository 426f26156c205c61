/-
  PROVED HERE: contracts of calls that leave memory which is only read from then on; loops over such a growing base.
  CONDITIONS: none. No statement of the seat is proved here.
-/
import Derived.Test.YtjpdcppdoonmdaaVb
namespace Go.Proofs.Ytjpdcppdoonmdaa
open Go.RowKit
theorem Bs.ok.refl_le {β : Bs} {w : World} (h : β.ok w) : β.le β := ⟨fun _ h => h, rfl, rfl, rfl, Nat.le_refl _, fun k hk => ⟨(h.old k hk).1, rfl⟩⟩
/-- what a call asks of memory and leaves; what it lays to the base -/
def SpecB (P : Program) (β : Bs) (f : FuncId) (args : Array Value) (pre : List HP) (post : Bs → Value → List HP → Prop) : Prop :=
  ∀ (R : Asn) w, Sat β (pre ++ [.abs R]) w → Calls P f args w fun e w' => ∃ β' v l, β.le β' ∧ e = .returned v ∧ post β' v l ∧ Sat β' (l ++ [.abs R]) w'
def RetQB (β : Bs) (R : Asn) (post : Bs → Value → List HP → Prop) : Ending → World → Prop := fun e w' => ∃ β' v l, β.le β' ∧ e = .returned v ∧ post β' v l ∧ Sat β' (l ++ [.abs R]) w'
section specB
variable {P : Program} {β β' : Bs} {N : Nat} {ops : Array Oper} {k : Nat} {fr : Fr} {hps R l : List HP} {Q : Post} {f : FuncId} {args : Array Value} {d : Option Tmp} {pre : List HP} {post : Bs → Value → List HP → Prop} {pk idx : List Nat} {c : Code} {fn : Func} {v : Value} {obl : List Prop} {w : World}
theorem SpecB.use (h : SpecB P β f args pre post) (hS : Sat β (pre ++ R) w) : Calls P f args w fun e w' => ∃ β' v l, β.le β' ∧ e = .returned v ∧ post β' v l ∧ Sat β' (l ++ R) w' :=
  (h _ w hS.bund).mono fun _ _ ⟨β', v, l, h0, h1, h2, h3⟩ => ⟨β', v, l, h0, h1, h2, h3.unbund⟩
theorem Spec.toB {post : Value → List HP → Prop} (h : Spec P β f args pre post) : SpecB P β f args pre (fun β' v l => β' = β ∧ post v l) :=
  fun R w hS => (h R w hS).mono fun _ _ ⟨v, l, h1, h2, h3⟩ => ⟨β, v, l, hS.1.refl_le, h1, ⟨rfl, h2⟩, h3⟩
theorem SpecB.mono {post' : Bs → Value → List HP → Prop} (h : SpecB P β f args pre post) (hp : ∀ β' v l, β.le β' → post β' v l → post' β' v l) : SpecB P β f args pre post' :=
  fun R w hS => (h R w hS).mono fun _ _ ⟨β', v, l, h0, h1, h2, h3⟩ => ⟨β', v, l, h0, h1, hp β' v l h0 h2, h3⟩
theorem TriL.callB (hc : ∀ junk, callOf P β N junk ops fr k = some (f, args, d)) (hs : SpecB P β f args pre post) (hn : nodupB pk = true) (hp : pickL hps pk = some (pre ++ R))
    (K : ∀ β' v l, β.le β' → post β' v l → TriL P β' N ops (k + 1) (putF fr d v) (l ++ R) Q) : TriL P β N ops k fr hps Q := by
  intro junk w hS
  obtain ⟨o, h1, h2, rfl, h3⟩ := callOf_spec (hc junk)
  rw [drop_cons h1]
  unfold wpList
  rw [wanted_mkA, if_pos h2]
  refine .inl ?_
  unfold Oper.wp
  rw [mkA_eval, h3 w hS.nil, Oper.upon_enter]
  refine (hs.use (hS.pick hn hp)).mono ?_
  rintro e w' ⟨β', v, l, hle, rfl, hpost, hS'⟩
  show wpList _ _ _ _ ((mkA N fr junk).put o.dst v) w'
  rw [mkA_put]
  exact K β' v l hle hpost junk w' hS'
theorem SpecB.enter (hf : P.funcs[f]? = some fn) (hb : fn.body = some c) (hN : fn.ntmps = N) (hl : args.toList.length ≤ N) (h : β.le β → ∀ R : Asn, Tri P β N c (zipF 0 args.toList) (pre ++ [.abs R]) (bodyPost P fn (RetQB β R post))) : SpecB P β f args pre post := by
  intro R w hS
  refine calls_of_wp hf hb ?_
  rw [hN, enter_mkA hl]
  exact h hS.1.refl_le R _ w hS
theorem TriQ.retB {R : Asn} (hints : List Hint) (pk : List Nat) (hle : β.le β') (hr : ∀ junk, retOf P β' N junk fn fr hps hints = some (v, obl)) (ho : AllP obl) (hn : nodupB pk = true) (hp : pickL hps pk = some (l ++ [.abs R])) (hpost : post β' v l) :
    TriQ β' N (bodyPost P fn (RetQB β R post)) .ret fr hps :=
  fun junk _ hS => ⟨rfl, v, retOf_spec (hr junk) ho hS, β', v, l, hle, rfl, hpost, hS.pick hn hp⟩
theorem TriQ.finB {R : Asn} (hints : List Hint) (pk : List Nat) (hle : β.le β') (hr : ∀ junk, retOf P β' N junk fn fr hps hints = some (v, obl)) (ho : AllP obl) (hn : nodupB pk = true) (hp : pickL hps pk = some (l ++ [.abs R])) (hpost : post β' v l) :
    TriQ β' N (bodyPost P fn (RetQB β R post)) .normal fr hps :=
  fun junk _ hS => ⟨rfl, v, retOf_spec (hr junk) ho hS, β', v, l, hle, rfl, hpost, hS.pick hn hp⟩
/-- a law's last step, where the base has grown -/
theorem TriQ.retU {R : Asn} {post : Value → List HP → Prop} (hints : List Hint) (pk : List Nat) (hle : β.le β') (hr : ∀ junk, retOf P β' N junk fn fr hps hints = some (v, obl)) (ho : AllP obl) (hn : nodupB pk = true) (hp : pickL hps pk = some (l ++ [.abs R])) (hpost : post v l) :
    TriQ β' N (bodyPost P fn (RetQ β R post)) .ret fr hps :=
  fun junk _ hS => ⟨rfl, v, retOf_spec (hr junk) ho hS, v, l, rfl, hpost, (hS.pick hn hp).debase hle⟩
theorem TriQ.finU {R : Asn} {post : Value → List HP → Prop} (hints : List Hint) (pk : List Nat) (hle : β.le β') (hr : ∀ junk, retOf P β' N junk fn fr hps hints = some (v, obl)) (ho : AllP obl) (hn : nodupB pk = true) (hp : pickL hps pk = some (l ++ [.abs R])) (hpost : post v l) :
    TriQ β' N (bodyPost P fn (RetQ β R post)) .normal fr hps :=
  fun junk _ hS => ⟨rfl, v, retOf_spec (hr junk) ho hS, v, l, rfl, hpost, (hS.pick hn hp).debase hle⟩
/-- a loop over a base that grows -/
def TurnB (N : Nat) {ι : Type} (bs : ι → Bs) (Inv : ι → Prop) (μ : ι → Nat) (fr : ι → Fr) (hp : ι → List HP) (m : Nat) : Act → World → Prop := fun a w => ∃ i, Inv i ∧ μ i < m ∧ ∃ junk, a = mkA N (fr i) junk ∧ Sat (bs i) (hp i) w
theorem Tri.loopB {ι : Type} (bs : ι → Bs) (Inv : ι → Prop) (μ : ι → Nat) (fr' : ι → Fr) (hp' : ι → List HP) (i0 : ι) (hb : bs i0 = β) (h0 : Inv i0) (hf : ∀ junk, pickF fr junk idx = fr' i0) (hn : nodupB pk = true) (hp : pickL hps pk = some (hp' i0))
    (round : ∀ i, Inv i → Tri P (bs i) N c (fr' i) (hp' i) (Exit.then (TurnB N bs Inv μ fr' hp' (μ i)) Q)) : Tri P β N (.loop c) fr hps Q := by
  intro junk w hS
  subst hb
  refine wp_loop_ghost (fun n a w => ∃ i, Inv i ∧ μ i = n ∧ ∃ junk, a = mkA N (fr' i) junk ∧ Sat (bs i) (hp' i) w) (μ i0) ⟨i0, h0, rfl, lk fr junk, by rw [mkA_pick N fr junk idx, hf junk], hS.pick hn hp⟩ ?_
  rintro n a w ⟨i, hi, rfl, junk, rfl, hS⟩
  refine Code.wp_mono (fun e a w q => ?_) (round i hi junk w hS)
  cases e with
  | normal =>
    obtain ⟨i', hi', hlt, junk', e, hS'⟩ := q
    exact ⟨μ i', hlt, i', hi', rfl, junk', e, hS'⟩
  | exit id => exact q
  | goto l => exact q
  | ret => exact q
  | panic ch => exact q
  | outgrown => exact q
theorem TriQ.turnB {ι : Type} {bs : ι → Bs} {Inv : ι → Prop} {μ : ι → Nat} {fr' : ι → Fr} {hp' : ι → List HP} {m : Nat} (i : ι) (hb : bs i = β) (hi : Inv i) (hm : μ i < m) (hf : ∀ junk, pickF fr junk idx = fr' i) (hn : nodupB pk = true) (hp : pickL hps pk = some (hp' i)) :
    TriQ β N (Exit.then (TurnB N bs Inv μ fr' hp' m) Q) .normal fr hps := fun junk _ hS => ⟨i, hi, hm, lk fr junk, by rw [mkA_pick N fr junk idx, hf junk], hb ▸ hS.pick hn hp⟩
end specB
end Go.Proofs.Ytjpdcppdoonmdaa
