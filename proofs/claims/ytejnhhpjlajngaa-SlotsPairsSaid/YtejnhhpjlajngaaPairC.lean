/-
  PROVED HERE: the calls of the law SlotsPairs as steps of its state.
  CONDITIONS: none.
-/
import Derived.Test.YtejnhhpjlajngaaStar
namespace Go.Proofs.Ytejnhhpjlajngaa
open Go.RowKit HeapM TabM Go.Maps

abbrev TP : TypeId := 60
abbrev TS : TypeId := 63
abbrev TR : TypeId := 32
def pv (v : Int) : Value := .agg #[.int .i64 v, .string ⟨#[98]⟩]
def tx (v : Int) : ByteArray := (⟨#[116, 101, 120, 116]⟩ : ByteArray).extract 0 v.toNat
def sv (v : Int) : Value := .string (tx v)
def mp (f : Int → Value) (us : Used Int) : Used Value := us.map fun p => (p.1, f p.2)
theorem mp_ins (f : Int → Value) (h v : Int) (us : Used Int) : ins h (f v) (mp f us) = mp f (ins h v us) := (ins_map f h v us).symm
theorem mp_del (f : Int → Value) (h : Int) (us : Used Int) : del h (mp f us) = mp f (del h us) := (del_map f h us).symm
theorem mp_keys (f : Int → Value) (us : Used Int) : keys (mp f us) = keys us := keys_map f us
theorem mp_least (f : Int → Value) (us : Used Int) : TabM.least (mp f us) = TabM.least us := by unfold TabM.least; rw [mp_keys]
theorem mp_len (f : Int → Value) (us : Used Int) : (mp f us).length = us.length := by simp [mp]
theorem mp_get (f : Int → Value) (us : Used Int) (h : Int) : TabM.get (mp f us) h = (TabM.get us h).map f := get_map f us h

/-- what the two reference tables have to do with: E beside the fourth -/
abbrev RS (B : Nat) (M : Int) (t u b7 b8 : Nat) (E : Asn) (u1 u2 u3 u4 : Used Int) (p1 p2 p3 p4 : Int) (w0 w : World) : Prop :=
  Sep4 B (TA TP t M p1 (mp pv u1)) (TA TS u M p2 (mp sv u2)) (RA b7 M p3 u3) (star (RA b8 M p4 u4) E) w0 w

section rs
variable {B : Nat} {M : Int} {t u b7 b8 : Nat} {E : Asn} {u1 u2 u3 u4 : Used Int} {p1 p2 p3 p4 : Int} {w0 w : World}
theorem RS.facts1 (h : RS B M t u b7 b8 E u1 u2 u3 u4 p1 p2 p3 p4 w0 w) : Rising (keys u1) ∧ (∀ x ∈ keys u1, 1 ≤ x) ∧ (u1.length : Int) ≤ M ∧ M ≤ 1024 := by
  obtain ⟨F, h1, _⟩ := h.get1
  have := TA.facts h1
  rw [mp_keys, mp_len] at this
  exact this
theorem RS.facts2 (h : RS B M t u b7 b8 E u1 u2 u3 u4 p1 p2 p3 p4 w0 w) : Rising (keys u2) ∧ (∀ x ∈ keys u2, 1 ≤ x) ∧ (u2.length : Int) ≤ M ∧ M ≤ 1024 := by
  obtain ⟨F, h1, _⟩ := h.get2
  have := TA.facts h1
  rw [mp_keys, mp_len] at this
  exact this
theorem RS.putP (h : RS B M t u b7 b8 E u1 u2 u3 u4 p1 p2 p3 p4 w0 w) (v : Int) (hf : (u1.length : Int) < M) :
    Calls Try.prog 12 #[.pointer (some ⟨t, 0, none⟩), .agg #[.int .i64 v, .string ⟨#[98]⟩]] w fun e w' => e = .returned (.tuple #[.int .i64 (least u1), .int .i64 0]) ∧
      RS B M t u b7 b8 E (ins (least u1) v u1) u2 u3 u4 (max p1 (u1.length + 1)) p2 p3 p4 w0 w' := by
  have h0 := h.call1 (fun F hF => stepP_put v ⟨#[98]⟩ (by rw [mp_len]; exact hf) hF)
  rw [mp_least, mp_len] at h0
  have e : ins (TabM.least u1) (.agg #[.int .i64 v, .string ⟨#[98]⟩]) (mp pv u1) = mp pv (ins (TabM.least u1) v u1) := mp_ins pv _ v u1
  rw [e] at h0
  exact h0
theorem RS.fullP (h : RS B M t u b7 b8 E u1 u2 u3 u4 p1 p2 p3 p4 w0 w) (v : Int) (hf : M ≤ (u1.length : Int)) :
    Calls Try.prog 12 #[.pointer (some ⟨t, 0, none⟩), .agg #[.int .i64 v, .string ⟨#[98]⟩]] w fun e w' => e = .returned (.tuple #[.int .i64 0, .int .i64 130]) ∧
      RS B M t u b7 b8 E u1 u2 u3 u4 p1 p2 p3 p4 w0 w' :=
  h.call1 (fun F hF => stepP_full v ⟨#[98]⟩ (by rw [mp_len]; exact hf) hF)
theorem RS.putS (h : RS B M t u b7 b8 E u1 u2 u3 u4 p1 p2 p3 p4 w0 w) (v : Int) (hf : (u2.length : Int) < M) :
    Calls Try.prog 14 #[.pointer (some ⟨u, 0, none⟩), .string (tx v)] w fun e w' => e = .returned (.tuple #[.int .i64 (least u2), .int .i64 0]) ∧
      RS B M t u b7 b8 E u1 (ins (least u2) v u2) u3 u4 p1 (max p2 (u2.length + 1)) p3 p4 w0 w' := by
  have h0 := h.call2 (fun F hF => stepS_put (tx v) (by rw [mp_len]; exact hf) hF)
  rw [mp_least, mp_len] at h0
  have e : ins (TabM.least u2) (.string (tx v)) (mp sv u2) = mp sv (ins (TabM.least u2) v u2) := mp_ins sv _ v u2
  rw [e] at h0
  exact h0
theorem RS.fullS (h : RS B M t u b7 b8 E u1 u2 u3 u4 p1 p2 p3 p4 w0 w) (v : Int) (hf : M ≤ (u2.length : Int)) :
    Calls Try.prog 14 #[.pointer (some ⟨u, 0, none⟩), .string (tx v)] w fun e w' => e = .returned (.tuple #[.int .i64 0, .int .i64 130]) ∧
      RS B M t u b7 b8 E u1 u2 u3 u4 p1 p2 p3 p4 w0 w' :=
  h.call2 (fun F hF => stepS_full (tx v) (by rw [mp_len]; exact hf) hF)
theorem RS.dropP (h : RS B M t u b7 b8 E u1 u2 u3 u4 p1 p2 p3 p4 w0 w) (h0 v : Int) (hw : (Lit.int .i64 h0).wf = true) (hg : TabM.get u1 h0 = some v) :
    Calls Try.prog 15 #[.pointer (some ⟨t, 0, none⟩), .int .i64 h0] w fun e w' => e = .returned (.tuple #[.agg #[.int .i64 v, .string ⟨#[98]⟩], .int .i64 0]) ∧
      RS B M t u b7 b8 E (del h0 u1) u2 u3 u4 p1 p2 p3 p4 w0 w' := by
  have := h.call1 (fun F hF => stepP_drop h0 v ⟨#[98]⟩ hw (by rw [mp_get, hg]; rfl) hF)
  rw [mp_del] at this
  exact this
theorem RS.missP (h : RS B M t u b7 b8 E u1 u2 u3 u4 p1 p2 p3 p4 w0 w) (h0 : Int) (hw : (Lit.int .i64 h0).wf = true) (hg : TabM.get u1 h0 = none) :
    Calls Try.prog 15 #[.pointer (some ⟨t, 0, none⟩), .int .i64 h0] w fun e w' => e = .returned (.tuple #[.agg #[.int .i64 0, .string ⟨#[]⟩], .int .i64 131]) ∧
      RS B M t u b7 b8 E u1 u2 u3 u4 p1 p2 p3 p4 w0 w' :=
  h.call1 (fun F hF => stepP_miss h0 hw (by rw [mp_get, hg]; rfl) hF)
theorem RS.getS (h : RS B M t u b7 b8 E u1 u2 u3 u4 p1 p2 p3 p4 w0 w) (h0 v : Int) (hw : (Lit.int .i64 h0).wf = true) (hg : TabM.get u2 h0 = some v) :
    Calls Try.prog 17 #[.pointer (some ⟨u, 0, none⟩), .int .i64 h0] w fun e w' => e = .returned (.tuple #[.string (tx v), .int .i64 0]) ∧
      RS B M t u b7 b8 E u1 u2 u3 u4 p1 p2 p3 p4 w0 w' :=
  h.call2 (fun F hF => stepS_get h0 (tx v) hw (by rw [mp_get, hg]; rfl) hF)
theorem RS.missS (h : RS B M t u b7 b8 E u1 u2 u3 u4 p1 p2 p3 p4 w0 w) (h0 : Int) (hw : (Lit.int .i64 h0).wf = true) (hg : TabM.get u2 h0 = none) :
    Calls Try.prog 17 #[.pointer (some ⟨u, 0, none⟩), .int .i64 h0] w fun e w' => e = .returned (.tuple #[.string ⟨#[]⟩, .int .i64 131]) ∧
      RS B M t u b7 b8 E u1 u2 u3 u4 p1 p2 p3 p4 w0 w' :=
  h.call2 (fun F hF => stepS_miss h0 hw (by rw [mp_get, hg]; rfl) hF)

/-- the reading of a reference table's block -/
structure Rd (b : Nat) (M p : Int) (us : Used Int) (A A' : Option Addr) (c c' : Nat) (w : World) : Prop where
  blk : w.heap[b]? = some (.cells #[.int .i64 M, .int .i64 p, .slice A us.length c, .slice A' us.length c'] TR (0, 0))
  c0 : w.cell? ⟨b, 0, none⟩ = some (.int .i64 M)
  c1 : w.cell? ⟨b, 1, none⟩ = some (.int .i64 p)
  c2 : w.cell? ⟨b, 2, none⟩ = some (.slice A us.length c)
  c3 : w.cell? ⟨b, 3, none⟩ = some (.slice A' us.length c')
  fr : ∀ j, w.frozen? ⟨b, j, none⟩ = false
  lt : b < w.heap.size
  rd : RdI w w.heap.size A (keys us)
  rd' : RdI w w.heap.size A' (vals us)
theorem RA.rd {b : Nat} {M p : Int} {us : Used Int} {F : Fp} (h : (RA b M p us).h F w) : ∃ A A' c c', Rd b M p us A A' c c' w := by
  obtain ⟨A, A', c, c', h, h1, h2, h3, h4, h5, h6⟩ := h
  exact ⟨A, A', c, c', h, by simp [World.cell?, h], by simp [World.cell?, h], by simp [World.cell?, h], by simp [World.cell?, h], fun j => by simp [World.frozen?, h], h3 b h4, h1, h2⟩
theorem RS.rd7 (h : RS B M t u b7 b8 E u1 u2 u3 u4 p1 p2 p3 p4 w0 w) : ∃ A A' c c', Rd b7 M p3 u3 A A' c c' w := by
  obtain ⟨F, h1, _⟩ := h.get3
  exact RA.rd h1
theorem RS.rd8 (h : RS B M t u b7 b8 E u1 u2 u3 u4 p1 p2 p3 p4 w0 w) : ∃ A A' c c', Rd b8 M p4 u4 A A' c c' w := by
  obtain ⟨F, ⟨F1, F2, h1, _⟩, _⟩ := h.get4
  exact RA.rd h1

/-- what stands in block b behind a store of the whole table -/
def st4 (w : World) (b : Nat) (M p : Int) (x y : Value) : World := (((w.setCell ⟨b, 0, none⟩ (.int .i64 M)).setCell ⟨b, 1, none⟩ (.int .i64 p)).setCell ⟨b, 2, none⟩ x).setCell ⟨b, 3, none⟩ y
theorem st4_keeps (w : World) (b : Nat) (M p : Int) (x y : Value) : Keeps (· = b) w (st4 w b M p x y) :=
  ((((Keeps.refl (· = b) w).setCell (p := ⟨b, 0, none⟩) (.inr rfl) _).setCell (p := ⟨b, 1, none⟩) (.inr rfl) _).setCell (p := ⟨b, 2, none⟩) (.inr rfl) _).setCell (p := ⟨b, 3, none⟩) (.inr rfl) _
theorem st4_blk {w : World} {b : Nat} {cs : Array Value} {TT : TypeId} (h : w.heap[b]? = some (.cells cs TT (0, 0))) (hs : cs.size = 4) (M p : Int) (x y : Value) :
    (st4 w b M p x y).heap[b]? = some (.cells #[.int .i64 M, .int .i64 p, x, y] TT (0, 0)) := by
  obtain ⟨⟨l⟩⟩ : Nonempty { l // cs = l } := ⟨⟨cs, rfl⟩⟩
  match cs, hs with
  | ⟨[a, b', c, d]⟩, _ => simp [st4, World.setCell, Array.getElem?_modify, h]
attribute [local irreducible] st4
/-- a reference table of old, another put into its block whose rows are new (made behind w) or as they were -/
theorem RA.put {b : Nat} {M p p' : Int} {us us' : Used Int} {F : Fp} {w w1 : World} {x y : Value} (h : (RA b M p us).h F w1) (hw : w.heap.size ≤ w1.heap.size) (hF : ∀ k, F k → k < w.heap.size)
    (o1 : w1.ownsRow w.heap.size 3 1 x us'.length (ints (keys us'))) (o2 : w1.ownsRow w.heap.size 3 1 y us'.length (ints (vals us'))) :
    ∃ F', (RA b M p' us').h F' (st4 w1 b M p' x y) ∧ Keeps (· = b) w1 (st4 w1 b M p' x y) ∧ ∀ k, F' k → F k ∨ w.heap.size ≤ k := by
  obtain ⟨A, A', c, c', h, h1, h2, h3, h4, h5, h6⟩ := h
  have hk := st4_keeps w1 b M p' x y
  have hb := hF b h4
  obtain ⟨A1, c1, rfl⟩ := own_shape o1
  obtain ⟨A2, c2, rfl⟩ := own_shape o2
  have l1 := o1.lt
  have l2 := o2.lt
  have q1 := hk.ownsRow o1 (fun k hk e => by have := (l1 k hk).1; omega)
  have q2 := hk.ownsRow o2 (fun k hk e => by have := (l2 k hk).1; omega)
  have lk : (keys us').length = us'.length := keys_len us'
  have lv : (vals us').length = us'.length := vals_len us'
  refine ⟨fun k => k = b ∨ w.heap.size ≤ k ∧ k < (st4 w1 b M p' (.slice A1 us'.length c1) (.slice A2 us'.length c2)).heap.size, ⟨A1, A2, c1, c2, st4_blk h (by simp) M p' _ _, ?_, ?_, fun k e => ?_, .inl rfl, fun g e => .inr ?_, fun g e => .inr ?_⟩, hk, fun k e => ?_⟩
  · refine RdI.of_own (base := w.heap.size) (c := c1) ?_; rw [lk]; exact q1
  · refine RdI.of_own (base := w.heap.size) (c := c2) ?_; rw [lv]; exact q2
  · rcases e with e | e
    · have := hk.size; omega
    · exact e.2
  · subst e
    have := l1 g rfl
    have := hk.size
    omega
  · subst e
    have := l2 g rfl
    have := hk.size
    omega
  · rcases e with e | e
    · exact .inl (e ▸ h4)
    · exact .inr e.1
theorem st4_same {w : World} {b : Nat} {TT : TypeId} {M p : Int} {x y : Value} (h : w.heap[b]? = some (.cells #[.int .i64 M, .int .i64 p, x, y] TT (0, 0))) : Keeps (fun _ => False) w (st4 w b M p x y) := by
  have hk := st4_keeps w b M p x y
  refine ⟨hk.os, hk.tape, hk.output, hk.size, fun i hi _ => ?_⟩
  by_cases e : i = b
  · subst e
    rw [st4_blk h rfl, h]
  · exact hk.block i hi e
theorem RA.store {b : Nat} {M p p' : Int} {us us' : Used Int} {w w1 : World} {x y : Value} (hb : Below w.heap.size w w1)
    (o1 : w1.ownsRow w.heap.size 3 1 x us'.length (ints (keys us'))) (o2 : w1.ownsRow w.heap.size 3 1 y us'.length (ints (vals us'))) :
    ∀ F, (RA b M p us).h F w → ∃ F', (RA b M p' us').h F' (st4 w1 b M p' x y) ∧ Step F w F' (st4 w1 b M p' x y) := by
  intro F h
  have hF := fun k => (RA b M p us).lt h k
  have hFb : F b := by obtain ⟨A, A', c, c', h, h1, h2, h3, h4, h5, h6⟩ := h; exact h4
  have k0 : Keeps (fun _ => False) w w1 := Keeps.of_below hb (fun k h1 h2 => by omega)
  obtain ⟨F', g, hk, hg⟩ := RA.put (p' := p') (Asn.quiet h k0) k0.size hF o1 o2
  exact ⟨F', g, ((k0.mono (S' := F) (fun _ _ e => e.elim)).andThen hk (fun i _ e => e ▸ hFb)), hg⟩
theorem RS.store7 (h : RS B M t u b7 b8 E u1 u2 u3 u4 p1 p2 p3 p4 w0 w) {w1 : World} {u3' : Used Int} {p3' : Int} {x y : Value} (hb : Below w.heap.size w w1)
    (o1 : w1.ownsRow w.heap.size 3 1 x u3'.length (ints (keys u3'))) (o2 : w1.ownsRow w.heap.size 3 1 y u3'.length (ints (vals u3'))) :
    RS B M t u b7 b8 E u1 u2 u3' u4 p1 p2 p3' p4 w0 (st4 w1 b7 M p3' x y) := h.step3 (RA.store hb o1 o2)
theorem RS.store8 (h : RS B M t u b7 b8 E u1 u2 u3 u4 p1 p2 p3 p4 w0 w) {w1 : World} {u4' : Used Int} {p4' : Int} {x y : Value} (hb : Below w.heap.size w w1)
    (o1 : w1.ownsRow w.heap.size 3 1 x u4'.length (ints (keys u4'))) (o2 : w1.ownsRow w.heap.size 3 1 y u4'.length (ints (vals u4'))) :
    RS B M t u b7 b8 E u1 u2 u3 u4' p1 p2 p3 p4' w0 (st4 w1 b8 M p4' x y) := h.step4 (star.stepL (RA.store hb o1 o2))
theorem Blk.cell {o : Nat} {cs : Array Value} {TT : TypeId} {F : Fp} (h : (Blk o cs TT).h F w) (j : Nat) : w.cell? ⟨o, j, none⟩ = cs[j]? ∧ w.frozen? ⟨o, j, none⟩ = false := by
  obtain ⟨h, _⟩ := h
  exact ⟨by simp [World.cell?, h], by simp [World.frozen?, h]⟩
theorem RS.addE (h : RS B M t u b7 b8 E u1 u2 u3 u4 p1 p2 p3 p4 w0 w) (cs : Array Value) (TT : TypeId) : RS B M t u b7 b8 (star E (Blk w.heap.size cs TT)) u1 u2 u3 u4 p1 p2 p3 p4 w0 (w.alloc (.cells cs TT)) := by
  have hk : Keeps (fun _ => False) w (w.alloc (.cells cs TT)) := (Keeps.refl _ w).alloc _
  refine h.step4 (star.stepR (fun F hF => ⟨fun k => F k ∨ k = w.heap.size, ⟨F, fun k => k = w.heap.size, Asn.quiet hF hk, ⟨heap_alloc_new w _, fun _ => Iff.rfl⟩, fun k e e' => ?_, fun _ => Iff.rfl⟩, hk.mono (fun _ _ h => h.elim), fun k e => ?_⟩))
  · have := E.lt hF k e; omega
  · exact e.imp (fun h => h) (fun h => Nat.le_of_eq h.symm)
theorem RS.leftE {E' : Asn} (h : RS B M t u b7 b8 (star E E') u1 u2 u3 u4 p1 p2 p3 p4 w0 w) : RS B M t u b7 b8 E u1 u2 u3 u4 p1 p2 p3 p4 w0 w :=
  h.step4 (star.stepR (fun F hF => by
    obtain ⟨F1, F2, h1, h2, d, e⟩ := hF
    exact ⟨F1, h1, (Keeps.refl _ w), fun k hk => .inl ((e k).2 (.inl hk))⟩))
theorem RS.cellE {o : Nat} {cs : Array Value} {TT : TypeId} (h : RS B M t u b7 b8 (Blk o cs TT) u1 u2 u3 u4 p1 p2 p3 p4 w0 w) (j : Nat) : w.cell? ⟨o, j, none⟩ = cs[j]? := by
  obtain ⟨F, ⟨F1, F2, _, h2, _⟩, _⟩ := h.get4
  exact (Blk.cell h2 j).1
theorem RS.cellEL {o : Nat} {cs : Array Value} {TT : TypeId} (h : RS B M t u b7 b8 (star (Blk o cs TT) E) u1 u2 u3 u4 p1 p2 p3 p4 w0 w) (j : Nat) : w.cell? ⟨o, j, none⟩ = cs[j]? := h.leftE.cellE j
theorem RS.stN {n : Nat} {cs : Array Value} {TT : TypeId} (h : RS B M t u b7 b8 (star E (Blk n cs TT)) u1 u2 u3 u4 p1 p2 p3 p4 w0 w) (hs : cs.size = 4) (m p : Int) (x y : Value) :
    RS B M t u b7 b8 (star E (Blk n #[.int .i64 m, .int .i64 p, x, y] TT)) u1 u2 u3 u4 p1 p2 p3 p4 w0 (st4 w n m p x y) :=
  h.step4 (star.stepR (star.stepR (fun F hF => ⟨F, ⟨st4_blk hF.1 hs m p x y, hF.2⟩, (st4_keeps w n m p x y).mono (fun _ _ e => (hF.2 _).2 e), fun _ e => .inl e⟩)))
theorem RS.ltE {n : Nat} {cs : Array Value} {TT : TypeId} (h : RS B M t u b7 b8 (star E (Blk n cs TT)) u1 u2 u3 u4 p1 p2 p3 p4 w0 w) : n < w.heap.size ∧ ∀ j, w.cell? ⟨n, j, none⟩ = cs[j]? ∧ w.frozen? ⟨n, j, none⟩ = false := by
  obtain ⟨F, ⟨F1, F2, _, ⟨G1, G2, _, h2, _⟩, _⟩, _⟩ := h.get4
  exact ⟨(Blk n cs TT).lt h2 n ((h2.2 n).2 rfl), fun j => Blk.cell h2 j⟩
theorem Rd.below {b : Nat} {M p : Int} {us : Used Int} {A A' : Option Addr} {c c' : Nat} {w w' : World} (h : Rd b M p us A A' c c' w) (hb : Below w.heap.size w w') : Rd b M p us A A' c c' w' := by
  have k0 : Keeps (fun _ => False) w w' := Keeps.of_below hb (fun k h1 h2 => by omega)
  have hbk := (k0.block b h.lt (fun h => h)).trans h.blk
  exact ⟨hbk, by simp [World.cell?, hbk], by simp [World.cell?, hbk], by simp [World.cell?, hbk], by simp [World.cell?, hbk], fun j => by simp [World.frozen?, hbk], Nat.lt_of_lt_of_le h.lt k0.size,
    (h.rd.keeps k0 (Nat.le_refl _) (fun _ _ _ h => h)).up k0.size, (h.rd'.keeps k0 (Nat.le_refl _) (fun _ _ _ h => h)).up k0.size⟩
theorem setCell_alloc {w : World} {p : Addr} (hp : p.block < w.heap.size) (v : Value) (ob : Obj) : (w.alloc ob).setCell p v = (w.setCell p v).alloc ob := by
  unfold World.setCell World.alloc
  congr 1
  apply Array.ext_getElem?
  intro i
  simp only [Array.getElem?_modify, Array.getElem?_push, Array.size_modify]
  by_cases h1 : i = w.heap.size
  · subst h1
    have : ¬ p.block = w.heap.size := by omega
    simp [this]
  · simp [h1]
theorem setCell_size (w : World) (p : Addr) (v : Value) : (w.setCell p v).heap.size = w.heap.size := by simp [World.setCell]
unseal st4 in
theorem st4_alloc {w : World} {b : Nat} (hb : b < w.heap.size) (M p : Int) (x y : Value) (ob : Obj) : st4 (w.alloc ob) b M p x y = (st4 w b M p x y).alloc ob := by
  unfold st4
  rw [setCell_alloc (p := ⟨b, 0, none⟩) hb, setCell_alloc (p := ⟨b, 1, none⟩) (by rw [setCell_size]; exact hb), setCell_alloc (p := ⟨b, 2, none⟩) (by rw [setCell_size, setCell_size]; exact hb),
    setCell_alloc (p := ⟨b, 3, none⟩) (by rw [setCell_size, setCell_size, setCell_size]; exact hb)]
unseal st4 in
theorem st4_size (w : World) (b : Nat) (M p : Int) (x y : Value) : (st4 w b M p x y).heap.size = w.heap.size := by
  unfold st4
  rw [setCell_size, setCell_size, setCell_size, setCell_size]
end rs
end Go.Proofs.Ytejnhhpjlajngaa
