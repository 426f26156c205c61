/-
  PROVED HERE: the contracts of the tables and of the reference tables, in the logic's form.
  CONDITIONS: none. No statement of the seat is proved here.
-/
import Derived.Test.YtejnhhpjlajngaaVd
import Derived.Test.YtejnhhpjlajngaaPairC
import Derived.Test.YtejnhhpjlajngaaAnd3
namespace Go.Proofs.Ytejnhhpjlajngaa
open Go.RowKit HeapM TabM Go.Maps
section gen
variable {P : Program} {β : Bs} {f : FuncId} {args : Array Value} {post : Value → List HP → Prop}
theorem Spec.ofA {A A' : Asn} {V : Value} (h : ∀ F w, A.h F w → Calls P f args w fun e w' => e = .returned V ∧ ∃ F', A'.h F' w' ∧ Step F w F' w') : Spec P β f args [.abs A] (fun v l => v = V ∧ l = [.abs A']) :=
  Spec.of1 fun F w hF => (h F w hF).mono fun e w' ⟨he, F', h1, h2⟩ => ⟨V, .abs A', he, ⟨rfl, rfl⟩, F', h1, h2⟩
theorem Spec.ofRead0 {A : Asn} (h : ∀ F w, A.h F w → Calls P f args w fun e w' => ∃ v, e = .returned v ∧ post v [.abs A] ∧ Keeps (fun _ => False) w w') : Spec P β f args [.abs A] post :=
  Spec.of1 fun F w hF => (h F w hF).mono fun e w' ⟨v, he, hp, hk⟩ => ⟨v, .abs A, he, hp, F, A.st hF hk (fun _ _ h => h), hk.mono (fun _ _ h => h.elim), fun _ h => .inl h⟩
theorem Spec.ofRead1 {A : Asn} (h : ∀ F w, A.h F w → Calls P f args w fun e w' => ∃ v p, e = .returned v ∧ post v [.abs A, p] ∧ Keeps (fun _ => False) w w' ∧ ∃ F', p.h F' w' ∧ ∀ k, F' k → w.heap.size ≤ k) : Spec P β f args [.abs A] post := by
  intro R w hS
  obtain ⟨F, hF⟩ := hS.get (i := 0) rfl
  refine (h F w hF).mono ?_
  rintro e w' ⟨v, p, rfl, hp, hk, F', hF', hn⟩
  exact ⟨v, [.abs A, p], rfl, hp, (Sat.new hS hF' hk hn).pick (idx := [0, 2, 1]) rfl rfl⟩
end gen
theorem keeps_of_below {w w' : World} (h : Below w.heap.size w w') : Keeps (fun _ => False) w w' := Keeps.of_below h (fun _ h1 h2 => by omega)

/-- the rows of a reference table -/
def IR (A A' : Option Addr) (us : Used Int) : Asn where
  h F w := RdI w w.heap.size A (keys us) ∧ RdI w w.heap.size A' (vals us) ∧ (∀ k, F k → k < w.heap.size) ∧ (∀ g, A = some ⟨g, 0, none⟩ → F g) ∧ (∀ g, A' = some ⟨g, 0, none⟩ → F g)
  lt := fun h => h.2.2.1
  st := by
    rintro F w ⟨h1, h2, h3, h5, h6⟩ S w' hk hn
    exact ⟨(h1.keeps hk (Nat.le_refl _) (fun g e _ => hn g (h5 g e))).up hk.size, (h2.keeps hk (Nat.le_refl _) (fun g e _ => hn g (h6 g e))).up hk.size, fun k e => Nat.lt_of_lt_of_le (h3 k e) hk.size, h5, h6⟩
theorem IR.new {w w' : World} {base : Nat} {A A' : Option Addr} {c c' : Nat} {us : Used Int}
    (o1 : w'.ownsRow base 3 1 (.slice A us.length c) us.length (ints (keys us))) (o2 : w'.ownsRow base 3 1 (.slice A' us.length c') us.length (ints (vals us))) (hb : w.heap.size ≤ base) :
    ∃ F, (IR A A' us).h F w' ∧ ∀ k, F k → w.heap.size ≤ k := by
  have l1 := o1.lt
  have l2 := o2.lt
  have lk : (keys us).length = us.length := keys_len us
  have lv : (vals us).length = us.length := vals_len us
  refine ⟨fun k => base ≤ k ∧ k < w'.heap.size, ⟨?_, ?_, fun k e => e.2, fun g e => l1 g (by rw [e]; rfl), fun g e => l2 g (by rw [e]; rfl)⟩, fun k e => Nat.le_trans hb e.1⟩
  · refine RdI.of_own (base := base) (c := c) ?_; rw [lk]; exact o1
  · refine RdI.of_own (base := base) (c := c') ?_; rw [lv]; exact o2
theorem IR.empty {w w' : World} (hw : w.heap.size ≤ w'.heap.size) : ∃ F, (IR none none []).h F w' ∧ ∀ k, F k → w.heap.size ≤ k :=
  ⟨fun _ => False, ⟨fun k hk => by simp [keys] at hk, fun k hk => by simp [vals] at hk, fun _ h => h.elim, (fun g e => nomatch e), (fun g e => nomatch e)⟩, fun _ h => h.elim⟩

theorem map_erase {α γ : Type} (g : α → γ) : ∀ (l : List α) (k : Nat), (l.map g).eraseIdx k = (l.eraseIdx k).map g
  | [], _ => rfl
  | _ :: _, 0 => rfl
  | a :: r, k + 1 => by simp [map_erase g r k]
theorem get_idx : ∀ {us : Used Int} {h v : Int}, Rising (keys us) → TabM.get us h = some v → ∃ k, k < us.length ∧ idx (keys us) h = k ∧ us[k]? = some (h, v) ∧ del h us = us.eraseIdx k
  | [], h, v, _, hg => by simp [TabM.get] at hg
  | p :: r, h, v, hr, hg => by
    have hr' : Rising (keys r) := (List.pairwise_cons.1 hr).2
    have hlt : ∀ x ∈ keys r, p.1 < x := (List.pairwise_cons.1 hr).1
    by_cases e : p.1 = h
    · subst e
      have hv : p.2 = v := by simpa [TabM.get] using hg
      subst hv
      refine ⟨0, by simp, by simp [idx, keys, List.findIdx?_cons], rfl, ?_⟩
      simp only [del, List.eraseIdx_zero, List.tail_cons]
      rw [List.filter_cons_of_neg (by simp)]
      refine List.filter_eq_self.2 (fun q hq => ?_)
      have := hlt q.1 (List.mem_map_of_mem hq)
      simp
      omega
    · have hg' : TabM.get r h = some v := by simpa [TabM.get, e] using hg
      obtain ⟨k, h1, h2, h3, h4⟩ := get_idx hr' hg'
      refine ⟨k + 1, by simp; omega, ?_, by simpa using h3, ?_⟩
      · have hk : (keys r).findIdx? (· == h) = some k := by
          unfold idx at h2
          split at h2
          · rename_i i hi; rw [hi]; congr 1; omega
          · omega
        simp [idx, keys_cons, List.findIdx?_cons, e, hk]
      · simp only [del, List.eraseIdx_cons_succ]
        rw [List.filter_cons_of_pos (by simp [e])]
        have : List.filter (fun p => p.1 != h) r = r.eraseIdx k := h4
        rw [this]
theorem Scr.get {w : World} {B : Nat} {A : Option Addr} {n i : Nat} (h : Scr w B A n) (hi : i < n) : ∃ (g o : Nat) (x y v : Int), A = some ⟨g, o, none⟩ ∧ g < B ∧ w.cell? ⟨g, o + i * 3, none⟩ = some (.int .i64 x) ∧ w.cell? ⟨g, o + i * 3 + 1, none⟩ = some (.int .i64 y) ∧
    w.cell? ⟨g, o + i * 3 + 2, none⟩ = some (.int .i64 v) ∧ (Lit.int .i64 x).wf = true ∧ (Lit.int .i64 y).wf = true ∧ (Lit.int .i64 v).wf = true := by
  obtain ⟨a, x, y, v, e, hb, h1, h2, h3, h4⟩ := h i hi
  have h00 := h 0 (by omega)
  obtain ⟨a', _, _, _, e', _, h5, _⟩ := h00
  rw [e] at e'
  cases e'
  have hs : a.spot = none := by
    simp only [Nat.zero_mul, Addr.add, if_true] at h5
    cases hsp : a.spot with
    | none => rfl
    | some s =>
      unfold World.cell? at h5
      split at h5
      · simp [hsp] at h5
      · cases h5
  have ea : a.add (i * 3) = ⟨a.block, a.off + i * 3, none⟩ := by
    unfold Addr.add
    split
    · rename_i h0; cases a; simp_all
    · rfl
  rw [ea] at h1 h2 h3
  refine ⟨a.block, a.off, x, y, v, ?_, hb, h1, h2, h3, h4⟩
  rw [e]
  cases a
  simp_all

section specs
variable {β : Bs}
theorem sp_alive : Spec Try.prog β 7 #[] [] (fun v l => v = .bool true ∧ l = []) :=
  Spec.of0 fun w _ => (alive_ok w).mono fun e w' ⟨he, hb⟩ => ⟨_, he, ⟨rfl, rfl⟩, keeps_of_below hb⟩
theorem sp_cut (A : Option Addr) (n c : Nat) (hn : n ≤ 1048576) (hc : n ≤ c) : Spec Try.prog β 11 #[.slice A n c] [] (fun v l => v = .slice A (min n 1500) c ∧ l = []) :=
  Spec.of0 fun w _ => (cut_ok A n c w hn hc).mono fun e w' ⟨he, hb⟩ => ⟨_, he, ⟨rfl, rfl⟩, hb ▸ Keeps.refl _ _⟩
def clamp (most : Int) : Int := min (max most 0) 1024
theorem sp_newP (most : Int) : Spec Try.prog β 8 #[.int .i64 most] [] (fun v l => ∃ t, v = .pointer (some ⟨t, 0, none⟩) ∧ l = [.abs (TA TP t (clamp most) 0 (mp pv []))]) :=
  Spec.of0new fun w _ => (newP most w).mono fun e w' ⟨he, h, hb⟩ => by
    obtain ⟨F, hA, hF⟩ := TA.new h
    exact ⟨_, .abs _, he, ⟨_, rfl, rfl⟩, keeps_of_below hb, F, hA, hF⟩
theorem sp_newS (most : Int) : Spec Try.prog β 9 #[.int .i64 most] [] (fun v l => ∃ t, v = .pointer (some ⟨t, 0, none⟩) ∧ l = [.abs (TA TS t (clamp most) 0 (mp sv []))]) :=
  Spec.of0new fun w _ => (newS most w).mono fun e w' ⟨he, h, hb⟩ => by
    obtain ⟨F, hA, hF⟩ := TA.new h
    exact ⟨_, .abs _, he, ⟨_, rfl, rfl⟩, keeps_of_below hb, F, hA, hF⟩
theorem sp_refnew (most : Int) : Spec Try.prog β 10 #[.int .i64 most] [] (fun v l => v = .agg #[.int .i64 (clamp most), .int .i64 0, .slice none 0 0, .slice none 0 0] ∧ l = [.abs (IR none none [])]) :=
  Spec.of0new fun w _ => (ref_new most w).mono fun e w' ⟨he, hb⟩ => by
    obtain ⟨F, hA, hF⟩ := IR.empty (w := w) (w' := w') hb.size
    exact ⟨_, .abs _, he, ⟨rfl, rfl⟩, keeps_of_below hb, F, hA, hF⟩
theorem sp_putP {t : Nat} {M p : Int} {us : Used Int} (v : Int) (hf : (us.length : Int) < M) :
    Spec Try.prog β 12 #[.pointer (some ⟨t, 0, none⟩), .agg #[.int .i64 v, .string ⟨#[98]⟩]] [.abs (TA TP t M p (mp pv us))]
      (fun r l => r = .tuple #[.int .i64 (least us), .int .i64 0] ∧ l = [.abs (TA TP t M (max p ((us.length : Int) + 1)) (mp pv (ins (least us) v us)))]) := by
  have h := Spec.ofA (β := β) (fun F w hF => stepP_put (t := t) (most := M) (peak := p) (us := mp pv us) (F := F) (w := w) v ⟨#[98]⟩ (by rw [mp_len]; exact hf) hF)
  rw [mp_least, mp_len] at h
  have e : ins (TabM.least us) (.agg #[.int .i64 v, .string ⟨#[98]⟩]) (mp pv us) = mp pv (ins (TabM.least us) v us) := mp_ins pv _ v us
  rw [e] at h
  exact h
theorem sp_fullP {t : Nat} {M p : Int} {us : Used Int} (v : Int) (hf : M ≤ (us.length : Int)) :
    Spec Try.prog β 12 #[.pointer (some ⟨t, 0, none⟩), .agg #[.int .i64 v, .string ⟨#[98]⟩]] [.abs (TA TP t M p (mp pv us))]
      (fun r l => r = .tuple #[.int .i64 0, .int .i64 130] ∧ l = [.abs (TA TP t M p (mp pv us))]) :=
  Spec.ofA (fun F w hF => stepP_full v ⟨#[98]⟩ (by rw [mp_len]; exact hf) hF)
theorem sp_putS {t : Nat} {M p : Int} {us : Used Int} (v : Int) (hf : (us.length : Int) < M) :
    Spec Try.prog β 14 #[.pointer (some ⟨t, 0, none⟩), .string (tx v)] [.abs (TA TS t M p (mp sv us))]
      (fun r l => r = .tuple #[.int .i64 (least us), .int .i64 0] ∧ l = [.abs (TA TS t M (max p ((us.length : Int) + 1)) (mp sv (ins (least us) v us)))]) := by
  have h := Spec.ofA (β := β) (fun F w hF => stepS_put (t := t) (most := M) (peak := p) (us := mp sv us) (F := F) (w := w) (tx v) (by rw [mp_len]; exact hf) hF)
  rw [mp_least, mp_len] at h
  have e : ins (TabM.least us) (.string (tx v)) (mp sv us) = mp sv (ins (TabM.least us) v us) := mp_ins sv _ v us
  rw [e] at h
  exact h
theorem sp_fullS {t : Nat} {M p : Int} {us : Used Int} (v : Int) (hf : M ≤ (us.length : Int)) :
    Spec Try.prog β 14 #[.pointer (some ⟨t, 0, none⟩), .string (tx v)] [.abs (TA TS t M p (mp sv us))]
      (fun r l => r = .tuple #[.int .i64 0, .int .i64 130] ∧ l = [.abs (TA TS t M p (mp sv us))]) :=
  Spec.ofA (fun F w hF => stepS_full (tx v) (by rw [mp_len]; exact hf) hF)
theorem sp_dropP {t : Nat} {M p : Int} {us : Used Int} (h0 v : Int) (hw : (Lit.int .i64 h0).wf = true) (hg : TabM.get us h0 = some v) :
    Spec Try.prog β 15 #[.pointer (some ⟨t, 0, none⟩), .int .i64 h0] [.abs (TA TP t M p (mp pv us))]
      (fun r l => r = .tuple #[.agg #[.int .i64 v, .string ⟨#[98]⟩], .int .i64 0] ∧ l = [.abs (TA TP t M p (mp pv (del h0 us)))]) := by
  have h := Spec.ofA (β := β) (fun F w hF => stepP_drop (t := t) (most := M) (peak := p) (us := mp pv us) (F := F) (w := w) h0 v ⟨#[98]⟩ hw (by rw [mp_get, hg]; rfl) hF)
  rw [mp_del] at h
  exact h
theorem sp_missP {t : Nat} {M p : Int} {us : Used Int} (h0 : Int) (hw : (Lit.int .i64 h0).wf = true) (hg : TabM.get us h0 = none) :
    Spec Try.prog β 15 #[.pointer (some ⟨t, 0, none⟩), .int .i64 h0] [.abs (TA TP t M p (mp pv us))]
      (fun r l => r = .tuple #[.agg #[.int .i64 0, .string ⟨#[]⟩], .int .i64 131] ∧ l = [.abs (TA TP t M p (mp pv us))]) :=
  Spec.ofA (fun F w hF => stepP_miss h0 hw (by rw [mp_get, hg]; rfl) hF)
theorem sp_getS {t : Nat} {M p : Int} {us : Used Int} (h0 v : Int) (hw : (Lit.int .i64 h0).wf = true) (hg : TabM.get us h0 = some v) :
    Spec Try.prog β 17 #[.pointer (some ⟨t, 0, none⟩), .int .i64 h0] [.abs (TA TS t M p (mp sv us))]
      (fun r l => r = .tuple #[.string (tx v), .int .i64 0] ∧ l = [.abs (TA TS t M p (mp sv us))]) :=
  Spec.ofA (fun F w hF => stepS_get h0 (tx v) hw (by rw [mp_get, hg]; rfl) hF)
theorem sp_missS {t : Nat} {M p : Int} {us : Used Int} (h0 : Int) (hw : (Lit.int .i64 h0).wf = true) (hg : TabM.get us h0 = none) :
    Spec Try.prog β 17 #[.pointer (some ⟨t, 0, none⟩), .int .i64 h0] [.abs (TA TS t M p (mp sv us))]
      (fun r l => r = .tuple #[.string ⟨#[]⟩, .int .i64 131] ∧ l = [.abs (TA TS t M p (mp sv us))]) :=
  Spec.ofA (fun F w hF => stepS_miss h0 hw (by rw [mp_get, hg]; rfl) hF)
theorem sp_lenP {t : Nat} {M p : Int} {us : Used Int} :
    Spec Try.prog β 19 #[.pointer (some ⟨t, 0, none⟩)] [.abs (TA TP t M p (mp pv us))] (fun r l => r = .int .i64 us.length ∧ l = [.abs (TA TP t M p (mp pv us))]) :=
  Spec.ofRead0 fun F w ⟨m, base, row, ⟨v, l, next, h, _⟩, _⟩ => (lenP t m base v l next M p (mp pv us) w h).mono fun e w' ⟨he, hw⟩ => ⟨_, he, ⟨by rw [mp_len], rfl⟩, hw ▸ Keeps.refl _ _⟩
theorem sp_lenS {t : Nat} {M p : Int} {us : Used Int} :
    Spec Try.prog β 20 #[.pointer (some ⟨t, 0, none⟩)] [.abs (TA TS t M p (mp sv us))] (fun r l => r = .int .i64 us.length ∧ l = [.abs (TA TS t M p (mp sv us))]) :=
  Spec.ofRead0 fun F w ⟨m, base, row, ⟨v, l, next, h, _⟩, _⟩ => (lenS t m base v l next M p (mp sv us) w h).mono fun e w' ⟨he, hw⟩ => ⟨_, he, ⟨by rw [mp_len], rfl⟩, hw ▸ Keeps.refl _ _⟩
theorem sp_at {M p : Value} {A A' : Option Addr} {c c' n' : Nat} {us : Used Int} (h : Int) (hl : us.length ≤ 1048576) :
    Spec Try.prog β 18 #[.agg #[M, p, .slice A us.length c, .slice A' n' c'], .int .i64 h] [.abs (IR A A' us)] (fun r l => r = .int .i64 (idx (keys us) h) ∧ l = [.abs (IR A A' us)]) :=
  Spec.ofRead0 fun F w hF => by
    have h0 := ref_at M p A c (.slice A' n' c') (keys us) h w hF.1 (by rw [keys_len]; exact hl)
    rw [keys_len] at h0
    exact h0.mono fun e w' ⟨he, hw⟩ => ⟨_, he, ⟨rfl, rfl⟩, hw ▸ (Keeps.refl _ _).alloc _⟩
theorem sp_rput {M p v : Int} {A A' : Option Addr} {c c' : Nat} {us : Used Int} (hrise : Rising (keys us)) (hpos : ∀ x ∈ keys us, 1 ≤ x) (hf : (us.length : Int) < M) (hl : us.length ≤ 1024) :
    Spec Try.prog β 13 #[.agg #[.int .i64 M, .int .i64 p, .slice A us.length c, .slice A' us.length c'], .int .i64 v] [.abs (IR A A' us)]
      (fun r l => ∃ B B' k k', r = .tuple #[.agg #[.int .i64 M, .int .i64 (max p ((us.length : Int) + 1)), .slice B (ins (least us) v us).length k, .slice B' (ins (least us) v us).length k'], .int .i64 (least us), .int .i64 0] ∧
        l = [.abs (IR A A' us), .abs (IR B B' (ins (least us) v us))]) :=
  Spec.ofRead1 fun F w hF => (ref_put_ok M p v A A' c c' us w hF.1 hF.2.1 hrise hpos hf hl).mono fun e w' ⟨hs', vs', he, o1, o2, hb⟩ => by
    obtain ⟨B, k, rfl⟩ := own_shape o1
    obtain ⟨B', k', rfl⟩ := own_shape o2
    obtain ⟨F', h1, h2⟩ := IR.new (w := w) o1 o2 (Nat.le_refl _)
    exact ⟨_, .abs _, he, ⟨B, B', k, k', rfl, rfl⟩, keeps_of_below hb, F', h1, h2⟩
theorem sp_rfull {M p v : Int} {A A' : Option Addr} {c c' n' : Nat} {us : Used Int} (hf : M ≤ (us.length : Int)) (hl : us.length ≤ 1024) :
    Spec Try.prog β 13 #[.agg #[.int .i64 M, .int .i64 p, .slice A us.length c, .slice A' n' c'], .int .i64 v] []
      (fun r l => r = .tuple #[.agg #[.int .i64 M, .int .i64 p, .slice A us.length c, .slice A' n' c'], .int .i64 0, .int .i64 130] ∧ l = []) :=
  Spec.of0 fun w _ => (ref_put_full M p v A c us.length (.slice A' n' c') w hf (by omega) ⟨A', n', c', rfl⟩).mono fun e w' ⟨he, hb⟩ => ⟨_, he, ⟨rfl, rfl⟩, keeps_of_below hb⟩
theorem sp_rdrop {M p : Int} {A A' : Option Addr} {c c' : Nat} {us : Used Int} (h v : Int) (hrise : Rising (keys us)) (hl : us.length ≤ 1024) (hg : TabM.get us h = some v) :
    Spec Try.prog β 16 #[.agg #[.int .i64 M, .int .i64 p, .slice A us.length c, .slice A' us.length c'], .int .i64 h] [.abs (IR A A' us)]
      (fun r l => ∃ B B' k k', r = .tuple #[.agg #[.int .i64 M, .int .i64 p, .slice B (del h us).length k, .slice B' (del h us).length k'], .int .i64 v, .int .i64 0] ∧
        l = [.abs (IR A A' us), .abs (IR B B' (del h us))]) := by
  obtain ⟨k, hk, hi, he, hd⟩ := get_idx hrise hg
  refine Spec.ofRead1 fun F w hF => ?_
  have hc := ref_drop_hit M p A A' c c' (keys us) (vals us) h k w hF.1 hF.2.1 (by rw [keys_len, vals_len]) (by rw [keys_len]; omega) hi (by rw [keys_len]; exact hk)
  rw [keys_len] at hc
  refine hc.mono fun e w' ⟨hs', vs', he', o1, o2, hb⟩ => ?_
  have ek : (keys us).eraseIdx k = keys (del h us) := by rw [hd]; exact map_erase _ _ _
  have ev : (vals us).eraseIdx k = vals (del h us) := by rw [hd]; exact map_erase _ _ _
  have ea : at_ (vals us) k = v := by simp [at_, vals, List.getD_eq_getElem?_getD, he]
  rw [ek, keys_len] at o1
  rw [ev, vals_len] at o2
  rw [ea] at he'
  obtain ⟨B, k1, rfl⟩ := own_shape o1
  obtain ⟨B', k2, rfl⟩ := own_shape o2
  obtain ⟨F', h1, h2⟩ := IR.new (w := w) o1 o2 (Nat.le_refl _)
  exact ⟨_, .abs _, he', ⟨B, B', k1, k2, rfl, rfl⟩, keeps_of_below hb, F', h1, h2⟩
theorem sp_rmiss {M p : Int} {A A' : Option Addr} {c c' n' : Nat} {us : Used Int} (h : Int) (hl : us.length ≤ 1024) (hg : TabM.get us h = none) :
    Spec Try.prog β 16 #[.agg #[.int .i64 M, .int .i64 p, .slice A us.length c, .slice A' n' c'], .int .i64 h] [.abs (IR A A' us)]
      (fun r l => r = .tuple #[.agg #[.int .i64 M, .int .i64 p, .slice A us.length c, .slice A' n' c'], .int .i64 0, .int .i64 131] ∧ l = [.abs (IR A A' us)]) := by
  refine Spec.ofRead0 fun F w hF => ?_
  have hc := ref_drop_miss M p A A' c c' n' (keys us) h w hF.1 (by rw [keys_len]; omega) (idx_not (get_none.1 hg))
  rw [keys_len] at hc
  exact hc.mono fun e w' ⟨he, hb⟩ => ⟨_, he, ⟨rfl, rfl⟩, keeps_of_below hb⟩
end specs
end Go.Proofs.Ytejnhhpjlajngaa
