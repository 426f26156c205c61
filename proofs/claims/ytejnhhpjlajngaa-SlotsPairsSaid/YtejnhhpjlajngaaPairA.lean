/-
  PROVED HERE: the assertions of the Slots laws: a table over its footprint, a reference table in a block over its footprint; the tables' calls as steps on them; alive and cut.
  CONDITIONS: none.
-/
import Derived.Test.YtejnhhpjlajngaaSep
import Derived.Test.YtejnhhpjlajngaaTabP
import Derived.Test.YtejnhhpjlajngaaTabS
import Derived.Test.YtejnhhpjlajngaaTabI
import Derived.Test.YtejnhhpjlajngaaRefPut
namespace Go.Proofs.Ytejnhhpjlajngaa
open Go.RowKit HeapM TabM Go.Maps

theorem Sep4.put1 {B : Nat} {A2 A3 A4 A1' : Asn} {w0 w w' : World} {F1 F2 F3 F4 F' : Fp} (h2 : A2.h F2 w) (h3 : A3.h F3 w) (h4 : A4.h F4 w) (d12 : Apart F1 F2) (d13 : Apart F1 F3) (d14 : Apart F1 F4)
    (d23 : Apart F2 F3) (d24 : Apart F2 F4) (d34 : Apart F3 F4) (b1 : ∀ k, F1 k → B ≤ k) (b2 : ∀ k, F2 k → B ≤ k) (b3 : ∀ k, F3 k → B ≤ k) (b4 : ∀ k, F4 k → B ≤ k) (hb : Below B w0 w) (hz : B ≤ w.heap.size)
    (h1' : A1'.h F' w') (st : Step F1 w F' w') : Sep4 B A1' A2 A3 A4 w0 w' := by
  obtain ⟨k2, e2⟩ := Asn.frame h2 st d12.symm
  obtain ⟨k3, e3⟩ := Asn.frame h3 st d13.symm
  obtain ⟨k4, e4⟩ := Asn.frame h4 st d14.symm
  refine ⟨⟨F', F2, F3, F4, h1', k2, k3, k4, e2.symm, e3.symm, e4.symm, d23, d24, d34, fun k hk => ?_, b2, b3, b4⟩, hb.trans (st.keeps.below b1 hz), Nat.le_trans hz st.keeps.size⟩
  rcases st.grow k hk with e | e
  · exact b1 k e
  · omega
theorem Sep4.call1 {B : Nat} {A1 A2 A3 A4 A1' : Asn} {w0 w : World} {P : Program} {f : Nat} {args : Array Value} {Q : Ending → Prop} (h : Sep4 B A1 A2 A3 A4 w0 w)
    (hc : ∀ F, A1.h F w → Calls P f args w fun e w' => Q e ∧ ∃ F', A1'.h F' w' ∧ Step F w F' w') : Calls P f args w fun e w' => Q e ∧ Sep4 B A1' A2 A3 A4 w0 w' := by
  obtain ⟨⟨F1, F2, F3, F4, h1, h2, h3, h4, d12, d13, d14, d23, d24, d34, b1, b2, b3, b4⟩, hb, hz⟩ := h
  exact (hc F1 h1).mono fun e w' ⟨q, F', h1', st⟩ => ⟨q, Sep4.put1 h2 h3 h4 d12 d13 d14 d23 d24 d34 b1 b2 b3 b4 hb hz h1' st⟩
theorem Sep4.call2 {B : Nat} {A1 A2 A3 A4 A2' : Asn} {w0 w : World} {P : Program} {f : Nat} {args : Array Value} {Q : Ending → Prop} (h : Sep4 B A1 A2 A3 A4 w0 w)
    (hc : ∀ F, A2.h F w → Calls P f args w fun e w' => Q e ∧ ∃ F', A2'.h F' w' ∧ Step F w F' w') : Calls P f args w fun e w' => Q e ∧ Sep4 B A1 A2' A3 A4 w0 w' :=
  (h.swap12.call1 hc).mono fun _ _ ⟨q, s⟩ => ⟨q, s.swap12⟩

/-- a table in memory, over its footprint -/
def TA (TT : TypeId) (t : Nat) (most peak : Int) (us : Used Value) : Asn where
  h F w := ∃ m base row, Tab TT t m base row most peak us w ∧ ∀ k, F k ↔ k = t ∨ k = m ∨ row = some k
  lt := by
    rintro F w ⟨m, base, row, ⟨v, l, next, h, rfl⟩, hF⟩ k hk
    rcases (hF k).1 hk with rfl | rfl | e
    · exact h.lt
    · exact h.map.lt
    · exact (h.vlt k e).2
  st := by
    rintro F w ⟨m, base, row, h, hF⟩ S w' hk hn
    exact ⟨m, base, row, h.keeps hk (hn t ((hF t).2 (.inl rfl))) (hn m ((hF m).2 (.inr (.inl rfl)))) (fun b hb => hn b ((hF b).2 (.inr (.inr hb)))), hF⟩

theorem TA.step {TT : TypeId} {t m base : Nat} {row : Option Nat} {most' peak' : Int} {us : Used Value} {F : Fp} {w w' : World}
    (hF : ∀ k, F k ↔ k = t ∨ k = m ∨ row = some k) (hp : TabPost TT t m base row most' peak' us w w') (hk : Keeps (fun k => k = t ∨ k = m ∨ row = some k) w w') :
    ∃ F', (TA TT t most' peak' us).h F' w' ∧ Step F w F' w' := by
  obtain ⟨v', l', next', h, hr⟩ := hp
  refine ⟨fun k => k = t ∨ k = m ∨ v'.ownBlock = some k, ⟨m, base, _, ⟨v', l', next', h, rfl⟩, fun _ => Iff.rfl⟩, hk.mono (fun k _ e => (hF k).2 e), fun k e => ?_⟩
  rcases e with e | e | e
  · exact .inl ((hF k).2 (.inl e))
  · exact .inl ((hF k).2 (.inr (.inl e)))
  · rcases hr with hr | ⟨g, hg, hge⟩
    · exact .inl ((hF k).2 (.inr (.inr (hr ▸ e))))
    · rw [hg] at e; cases e; exact .inr hge

theorem TA.facts {TT : TypeId} {t : Nat} {most peak : Int} {us : Used Value} {F : Fp} {w : World} (h : (TA TT t most peak us).h F w) :
    Rising (keys us) ∧ (∀ x ∈ keys us, 1 ≤ x) ∧ (us.length : Int) ≤ most ∧ most ≤ 1024 := by
  obtain ⟨m, base, row, ⟨v, l, next, h, rfl⟩, hF⟩ := h
  exact ⟨h.ti.rise, fun x hx => (h.ti.pos x hx).1, h.most0, h.most1⟩

section tp
variable {t : Nat} {most peak : Int} {us : Used Value} {F : Fp} {w : World}
theorem stepP_put (A : Int) (B : ByteArray) (hf : (us.length : Int) < most) (h : (TA 60 t most peak us).h F w) :
    Calls Try.prog 12 #[.pointer (some ⟨t, 0, none⟩), .agg #[.int .i64 A, .string B]] w fun e w' => e = .returned (.tuple #[.int .i64 (least us), .int .i64 0]) ∧
      ∃ F', (TA 60 t most (max peak (us.length + 1)) (ins (least us) (.agg #[.int .i64 A, .string B]) us)).h F' w' ∧ Step F w F' w' := by
  obtain ⟨m, base, row, ⟨v, l, next, h, rfl⟩, hF⟩ := h
  cases l with
  | nil => exact (putP_next t m base v [] next most peak us A B w h hf rfl).mono fun e w' ⟨he, hp, hk⟩ => ⟨he, TA.step hF hp hk⟩
  | cons a l => exact (putP_back t m base l.length v (a :: l) next most peak us A B w h hf rfl).mono fun e w' ⟨he, hp, hk⟩ => ⟨he, TA.step hF hp hk⟩
theorem stepP_full (A : Int) (B : ByteArray) (hf : most ≤ us.length) (h : (TA 60 t most peak us).h F w) :
    Calls Try.prog 12 #[.pointer (some ⟨t, 0, none⟩), .agg #[.int .i64 A, .string B]] w fun e w' => e = .returned (.tuple #[.int .i64 0, .int .i64 130]) ∧
      ∃ F', (TA 60 t most peak us).h F' w' ∧ Step F w F' w' := by
  have h0 := h
  obtain ⟨m, base, row, ⟨v, l, next, h, rfl⟩, hF⟩ := h
  exact (putP_full t m base v l next most peak us A B w h hf).mono fun e w' ⟨he, hk⟩ => ⟨he, F, Asn.quiet h0 hk, Step.quiet hk⟩
theorem stepP_drop (h0 : Int) (A : Int) (B : ByteArray) (hw : (Lit.int .i64 h0).wf = true) (hg : TabM.get us h0 = some (.agg #[.int .i64 A, .string B])) (h : (TA 60 t most peak us).h F w) :
    Calls Try.prog 15 #[.pointer (some ⟨t, 0, none⟩), .int .i64 h0] w fun e w' => e = .returned (.tuple #[.agg #[.int .i64 A, .string B], .int .i64 0]) ∧
      ∃ F', (TA 60 t most peak (del h0 us)).h F' w' ∧ Step F w F' w' := by
  obtain ⟨m, base, row, ⟨v, l, next, h, rfl⟩, hF⟩ := h
  exact (dropP_some t m base v l next most peak us h0 A B w h hw hg).mono fun e w' ⟨he, hp, hk⟩ => ⟨he, TA.step hF hp hk⟩
theorem stepP_miss (h0 : Int) (hw : (Lit.int .i64 h0).wf = true) (hg : TabM.get us h0 = none) (h : (TA 60 t most peak us).h F w) :
    Calls Try.prog 15 #[.pointer (some ⟨t, 0, none⟩), .int .i64 h0] w fun e w' => e = .returned (.tuple #[.agg #[.int .i64 0, .string ⟨#[]⟩], .int .i64 131]) ∧
      ∃ F', (TA 60 t most peak us).h F' w' ∧ Step F w F' w' := by
  have hh := h
  obtain ⟨m, base, row, ⟨v, l, next, h, rfl⟩, hF⟩ := h
  exact (dropP_none t m base v l next most peak us h0 w h hw hg).mono fun e w' ⟨he, hk⟩ => ⟨he, F, Asn.quiet hh hk, Step.quiet hk⟩
theorem stepS_put (B : ByteArray) (hf : (us.length : Int) < most) (h : (TA 63 t most peak us).h F w) :
    Calls Try.prog 14 #[.pointer (some ⟨t, 0, none⟩), .string B] w fun e w' => e = .returned (.tuple #[.int .i64 (least us), .int .i64 0]) ∧
      ∃ F', (TA 63 t most (max peak (us.length + 1)) (ins (least us) (.string B) us)).h F' w' ∧ Step F w F' w' := by
  obtain ⟨m, base, row, ⟨v, l, next, h, rfl⟩, hF⟩ := h
  cases l with
  | nil => exact (putS_next t m base v [] next most peak us B w h hf rfl).mono fun e w' ⟨he, hp, hk⟩ => ⟨he, TA.step hF hp hk⟩
  | cons a l => exact (putS_back t m base l.length v (a :: l) next most peak us B w h hf rfl).mono fun e w' ⟨he, hp, hk⟩ => ⟨he, TA.step hF hp hk⟩
theorem stepS_full (B : ByteArray) (hf : most ≤ us.length) (h : (TA 63 t most peak us).h F w) :
    Calls Try.prog 14 #[.pointer (some ⟨t, 0, none⟩), .string B] w fun e w' => e = .returned (.tuple #[.int .i64 0, .int .i64 130]) ∧
      ∃ F', (TA 63 t most peak us).h F' w' ∧ Step F w F' w' := by
  have h0 := h
  obtain ⟨m, base, row, ⟨v, l, next, h, rfl⟩, hF⟩ := h
  exact (putS_full t m base v l next most peak us B w h hf).mono fun e w' ⟨he, hk⟩ => ⟨he, F, Asn.quiet h0 hk, Step.quiet hk⟩
theorem stepS_get (h0 : Int) (B : ByteArray) (hw : (Lit.int .i64 h0).wf = true) (hg : TabM.get us h0 = some (.string B)) (h : (TA 63 t most peak us).h F w) :
    Calls Try.prog 17 #[.pointer (some ⟨t, 0, none⟩), .int .i64 h0] w fun e w' => e = .returned (.tuple #[.string B, .int .i64 0]) ∧
      ∃ F', (TA 63 t most peak us).h F' w' ∧ Step F w F' w' := by
  have hh := h
  obtain ⟨m, base, row, ⟨v, l, next, h, rfl⟩, hF⟩ := h
  exact (getS_some t m base v l next most peak us h0 B w h hw hg).mono fun e w' ⟨he, hk⟩ => ⟨he, F, Asn.quiet hh hk, Step.quiet hk⟩
theorem stepS_miss (h0 : Int) (hw : (Lit.int .i64 h0).wf = true) (hg : TabM.get us h0 = none) (h : (TA 63 t most peak us).h F w) :
    Calls Try.prog 17 #[.pointer (some ⟨t, 0, none⟩), .int .i64 h0] w fun e w' => e = .returned (.tuple #[.string ⟨#[]⟩, .int .i64 131]) ∧
      ∃ F', (TA 63 t most peak us).h F' w' ∧ Step F w F' w' := by
  have hh := h
  obtain ⟨m, base, row, ⟨v, l, next, h, rfl⟩, hF⟩ := h
  exact (getS_none t m base v l next most peak us h0 w h hw hg).mono fun e w' ⟨he, hk⟩ => ⟨he, F, Asn.quiet hh hk, Step.quiet hk⟩
end tp

theorem RdI.up {w : World} {B B' : Nat} {A : Option Addr} {ks : List Int} (h : RdI w B A ks) (hb : B ≤ B') : RdI w B' A ks := fun k hk => by
  obtain ⟨g, e, hg, hc⟩ := h k hk
  exact ⟨g, e, by omega, hc⟩
/-- a reference table in block b, over its footprint -/
def RA (b : Nat) (most peak : Int) (us : Used Int) : Asn where
  h F w := ∃ A A' c c', w.heap[b]? = some (.cells #[.int .i64 most, .int .i64 peak, .slice A us.length c, .slice A' us.length c'] 32 (0, 0)) ∧
    RdI w w.heap.size A (keys us) ∧ RdI w w.heap.size A' (vals us) ∧ (∀ k, F k → k < w.heap.size) ∧ F b ∧ (∀ g, A = some ⟨g, 0, none⟩ → F g) ∧ (∀ g, A' = some ⟨g, 0, none⟩ → F g)
  lt := by
    rintro F w ⟨A, A', c, c', h, h1, h2, h3, h4, h5, h6⟩ k hk
    exact h3 k hk
  st := by
    rintro F w ⟨A, A', c, c', h, h1, h2, h3, h4, h5, h6⟩ S w' hk hn
    exact ⟨A, A', c, c', (hk.block b (h3 b h4) (hn b h4)).trans h, (h1.keeps hk (Nat.le_refl _) (fun g e _ => hn g (h5 g e))).up hk.size, (h2.keeps hk (Nat.le_refl _) (fun g e _ => hn g (h6 g e))).up hk.size,
      fun k e => Nat.lt_of_lt_of_le (h3 k e) hk.size, h4, h5, h6⟩

/-- block b of w' has turned from a reference table to another, whose rows are new or those of old -/
theorem RA.step {b : Nat} {most' peak' : Int} {us' : Used Int} {F : Fp} {w w' : World} {A A' : Option Addr} {c c' : Nat} (hb : F b) (hF : ∀ k, F k → k < w.heap.size)
    (h : w'.heap[b]? = some (.cells #[.int .i64 most', .int .i64 peak', .slice A us'.length c, .slice A' us'.length c'] 32 (0, 0)))
    (h1 : RdI w' w'.heap.size A (keys us')) (h2 : RdI w' w'.heap.size A' (vals us')) (hk : Keeps (· = b) w w')
    (n1 : ∀ g, A = some ⟨g, 0, none⟩ → F g ∨ w.heap.size ≤ g ∧ g < w'.heap.size) (n2 : ∀ g, A' = some ⟨g, 0, none⟩ → F g ∨ w.heap.size ≤ g ∧ g < w'.heap.size) :
    ∃ F', (RA b most' peak' us').h F' w' ∧ Step F w F' w' := by
  refine ⟨fun k => F k ∨ w.heap.size ≤ k ∧ k < w'.heap.size, ⟨A, A', c, c', h, h1, h2, fun k e => ?_, .inl hb, n1, n2⟩, hk.mono (fun k _ e => e ▸ hb), fun k e => ?_⟩
  · rcases e with e | e
    · exact Nat.lt_of_lt_of_le (hF k e) hk.size
    · exact e.2
  · exact e.imp (fun h => h) (fun h => h.1)

section ti
variable {t : Nat} {most peak : Int} {us : Used Value} {F : Fp} {w : World}
theorem stepI_put (A : Int) (hf : (us.length : Int) < most) (h : (TA 71 t most peak us).h F w) :
    Calls Try.prog 22 #[.pointer (some ⟨t, 0, none⟩), .int .i64 A] w fun e w' => e = .returned (.tuple #[.int .i64 (least us), .int .i64 0]) ∧
      ∃ F', (TA 71 t most (max peak (us.length + 1)) (ins (least us) (.int .i64 A) us)).h F' w' ∧ Step F w F' w' := by
  obtain ⟨m, base, row, ⟨v, l, next, h, rfl⟩, hF⟩ := h
  cases l with
  | nil => exact (putI_next t m base v [] next most peak us A w h hf rfl).mono fun e w' ⟨he, hp, hk⟩ => ⟨he, TA.step hF hp hk⟩
  | cons a l => exact (putI_back t m base l.length v (a :: l) next most peak us A w h hf rfl).mono fun e w' ⟨he, hp, hk⟩ => ⟨he, TA.step hF hp hk⟩
theorem stepI_full (A : Int) (hf : most ≤ us.length) (h : (TA 71 t most peak us).h F w) :
    Calls Try.prog 22 #[.pointer (some ⟨t, 0, none⟩), .int .i64 A] w fun e w' => e = .returned (.tuple #[.int .i64 0, .int .i64 130]) ∧
      ∃ F', (TA 71 t most peak us).h F' w' ∧ Step F w F' w' := by
  have h0 := h
  obtain ⟨m, base, row, ⟨v, l, next, h, rfl⟩, hF⟩ := h
  exact (putI_full t m base v l next most peak us A w h hf).mono fun e w' ⟨he, hk⟩ => ⟨he, F, Asn.quiet h0 hk, Step.quiet hk⟩
end ti

/-- nothing -/
def emp : Asn where
  h F _ := ∀ k, ¬ F k
  lt h k hk := (h k hk).elim
  st h _ _ _ _ := h
theorem emp.mk (w : World) : emp.h (fun _ => False) w := fun _ h => h
/-- the first part made -/
theorem Sep4.first {A : Asn} {F : Fp} {w w' : World} {B : Nat} (h : A.h F w') (hF : ∀ k, F k → B ≤ k) (hb : Below B w w') (hz : B ≤ w'.heap.size) : Sep4 B A emp emp emp w w' :=
  ⟨⟨F, fun _ => False, fun _ => False, fun _ => False, h, emp.mk _, emp.mk _, emp.mk _, fun _ _ h => h, fun _ _ h => h, fun _ _ h => h, fun _ h _ => h, fun _ h _ => h, fun _ h _ => h, hF, fun _ h => h.elim, fun _ h => h.elim, fun _ h => h.elim⟩, hb, hz⟩
theorem TA.new {TT : TypeId} {t m base : Nat} {v : Value} {l : List Int} {next most peak : Int} {us : Used Value} {w : World} (h : TabP TT t m base v l next most peak us w) :
    ∃ F, (TA TT t most peak us).h F w ∧ ∀ k, F k → base ≤ k :=
  ⟨fun k => k = t ∨ k = m ∨ v.ownBlock = some k, ⟨m, base, _, ⟨v, l, next, h, rfl⟩, fun _ => Iff.rfl⟩, fun k e => by
    rcases e with e | e | e
    · exact e ▸ h.bt
    · exact e ▸ h.bm
    · exact (h.vlt k e).1⟩

theorem alive_ok (w : World) : Calls Try.prog 7 #[] w fun e w' => e = .returned (.bool true) ∧ Below w.heap.size w w' := by
  go_enter Try.func7, Try.ntmps7
  go_wp2_with fail
  refine (newI 2 w).mono ?_
  rintro e w1 ⟨rfl, h, hb⟩
  obtain ⟨F, hA, hF⟩ := TA.new h
  have S1 := Lib.hid (Sep4.first hA hF hb (by have := h.lt; omega))
  clear h hA hF hb
  go_wp2_with fail
  refine (S1.out.call1 (fun F h => stepI_put 5 (by decide) h)).mono ?_
  rintro e w2 ⟨rfl, s⟩
  have S2 := Lib.hid s
  clear s
  go_wp2_with fail
  refine (S2.out.call1 (fun F h => stepI_put 6 (by decide) h)).mono ?_
  rintro e w3 ⟨rfl, s⟩
  have S3 := Lib.hid s
  clear s
  go_wp2_with fail
  refine (S3.out.call1 (fun F h => stepI_full 7 (by decide) h)).mono ?_
  rintro e w4 ⟨rfl, s⟩
  have S4 := Lib.hid s
  clear s
  go_wp2_with fail
  go_ret
  exact ⟨rfl, S4.out.below⟩

theorem cut_ok (A : Option Addr) (n c : Nat) (w : World) (hn : n ≤ 1048576) (hc : n ≤ c) : Calls Try.prog 11 #[.slice A n c] w fun e w' => e = .returned (.slice A (min n 1500) c) ∧ w' = w := by
  by_cases h : n ≤ 1500
  · go_enter Try.func11, Try.ntmps11
    go_wp2
    go_ret
    exact ⟨by show Ending.returned (.slice A n c) = _; rw [Nat.min_eq_left h], rfl⟩
  · go_enter Try.func11, Try.ntmps11
    go_wp2
    go_ret
    exact ⟨by show Ending.returned (.slice A 1500 c) = _; rw [Nat.min_eq_right (by omega)], rfl⟩
end Go.Proofs.Ytejnhhpjlajngaa
