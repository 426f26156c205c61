/-
  PROVED HERE: the kernel's run of operations over a known frame and known memory is the model's run.
  CONDITIONS: none. No statement of the seat is proved here.
-/
import Derived.Test.YtjpdcppdoonmdaaV
namespace Go.Proofs.Ytjpdcppdoonmdaa
open Go.RowKit

/-! ### the kernel runs the operations -/
inductive Hint
  | at (i : Nat)
  | old (v : Value)
  | view (i : Nat) (v : Value)
structure SS where
  hints : List Hint
  hps : List HP
  obl : List Prop
  used : Bool

def AllP : List Prop → Prop
  | [] => True
  | p :: r => p ∧ AllP r
theorem AllP.mem : ∀ {l : List Prop}, AllP l → ∀ {p : Prop}, p ∈ l → p
  | [], _, _, h => by cases h
  | _ :: _, h, _, hm => by
    rcases List.mem_cons.1 hm with e | e
    · exact e ▸ h.1
    · exact h.2.mem e

def srun (P : Program) (β : Bs) (n : Nat) (ro : Bool) {α : Type} : Sem α → SS → Option (α × SS)
  | .pure a, s => some (a, s)
  | .load _ a k, s =>
    match s.hints with
    | .at i :: hs =>
      match s.hps[i]? with
      | some (.blk b cs _) =>
        match a.spot with
        | none =>
          match cs[a.off]? with
          | some v => srun P β n ro (k v) { s with hints := hs, obl := (a.block = b) :: s.obl }
          | none => none
        | some _ => none
      | _ => none
    | .old v :: hs => srun P β n ro (k v) { s with hints := hs, obl := (β.O a.block ∧ β.w0.cell? a = some v) :: s.obl }
    | .view i v :: hs =>
      match s.hps[i]? with
      | some (.abs A) => srun P β n ro (k v) { s with hints := hs, obl := (∀ F w, A.h F w → w.cell? a = some v) :: s.obl }
      | _ => none
    | [] => none
  | .store _ a v k, s =>
    match ro with
    | true => none
    | false =>
    match v with
    | .agg _ => none
    | .tuple _ => none
    | v =>
      match s.hints with
      | .at i :: hs =>
        match s.hps[i]? with
        | some (.blk b cs T) =>
          match a.spot with
          | none =>
            match cs[a.off]? with
            | some _ => srun P β n ro k { s with hints := hs, hps := s.hps.set i (.blk b (cs.set a.off v) T), obl := (a.block = b) :: s.obl }
            | none => none
          | some _ => none
        | _ => none
      | _ => none
  | .new o k, s =>
    match ro, s.used, o with
    | false, false, .cells c T (0, 0) => srun P β n ro (k n) { s with hps := s.hps ++ [.blk n c.toList T], used := true }
    | _, _, _ => none
  | .shape r k, s =>
    match s.hints with
    | .at i :: hs =>
      match s.hps[i]? with
      | some (.blk b cs T) => srun P β n ro (k (some (T, cs.length))) { s with hints := hs, obl := (r = b) :: s.obl }
      | _ => none
    | _ => none
  | .frozen a k, s =>
    match s.hints with
    | .at i :: hs =>
      match s.hps[i]? with
      | some (.blk b _ _) => srun P β n ro (k false) { s with hints := hs, obl := (a.block = b) :: s.obl }
      | _ => none
    | _ => none
  | .program k, s => srun P β n ro (k P) s
  | .mark _ k, s => srun P β n ro k s
  | .freeze .., _ => none
  | .getObj .., _ => none
  | .setObj .., _ => none
  | .choose .., _ => none
  | .sys .., _ => none
  | .halt _, _ => none

section sound
variable {P : Program} {β : Bs} {n : Nat} {ro : Bool}
theorem srun_obl {α : Type} : ∀ (s : Sem α) (S S' : SS) (x : α), srun P β n ro s S = some (x, S') → ∀ p, p ∈ S.obl → p ∈ S'.obl := by
  intro s
  induction s with
  | pure a => intro S S' x h p hp; simp only [srun, Option.some.injEq, Prod.mk.injEq] at h; rw [← h.2]; exact hp
  | load m a k ih => intro S S' x h p hp; simp only [srun] at h; (repeat' split at h); all_goals first | (cases h; done) | exact ih _ _ _ _ h p (List.mem_cons_of_mem _ hp)
  | store m a v k ih => intro S S' x h p hp; simp only [srun] at h; (repeat' split at h); all_goals first | (cases h; done) | exact ih _ _ _ h p (List.mem_cons_of_mem _ hp)
  | new o k ih => intro S S' x h p hp; simp only [srun] at h; (repeat' split at h); all_goals first | (cases h; done) | exact ih _ _ _ _ h p hp
  | shape r k ih => intro S S' x h p hp; simp only [srun] at h; (repeat' split at h); all_goals first | (cases h; done) | exact ih _ _ _ _ h p (List.mem_cons_of_mem _ hp)
  | frozen r k ih => intro S S' x h p hp; simp only [srun] at h; (repeat' split at h); all_goals first | (cases h; done) | exact ih _ _ _ _ h p (List.mem_cons_of_mem _ hp)
  | program k ih => intro S S' x h p hp; simp only [srun] at h; exact ih _ _ _ _ h p hp
  | mark m k ih => intro S S' x h p hp; simp only [srun] at h; exact ih _ _ _ h p hp
  | freeze a m k ih => intro S S' x h; simp only [srun] at h; cases h
  | getObj r k ih => intro S S' x h; simp only [srun] at h; cases h
  | setObj r o k ih => intro S S' x h; simp only [srun] at h; cases h
  | choose q k ih => intro S S' x h; simp only [srun] at h; cases h
  | sys c k ih => intro S S' x h; simp only [srun] at h; cases h
  | halt e => intro S S' x h; simp only [srun] at h; cases h

theorem srun_ro {α : Type} : ∀ (s : Sem α) (S S' : SS) (x : α), srun P β n true s S = some (x, S') → S'.hps = S.hps ∧ S'.used = S.used := by
  intro s
  induction s with
  | pure a => intro S S' x h; simp only [srun, Option.some.injEq, Prod.mk.injEq] at h; rw [← h.2]; exact ⟨rfl, rfl⟩
  | load m a k ih => intro S S' x h; simp only [srun] at h; (repeat' split at h); all_goals first | (cases h; done) | (have h' := ih _ _ _ _ h; exact h')
  | store m a v k ih => intro S S' x h; simp only [srun] at h; cases h
  | new o k ih => intro S S' x h; simp only [srun] at h; (repeat' split at h); all_goals first | (cases h; done) | contradiction
  | shape r k ih => intro S S' x h; simp only [srun] at h; (repeat' split at h); all_goals first | (cases h; done) | (have h' := ih _ _ _ _ h; exact h')
  | frozen r k ih => intro S S' x h; simp only [srun] at h; (repeat' split at h); all_goals first | (cases h; done) | (have h' := ih _ _ _ _ h; exact h')
  | program k ih => intro S S' x h; simp only [srun] at h; (have h' := ih _ _ _ _ h; exact h')
  | mark m k ih => intro S S' x h; simp only [srun] at h; exact ih _ _ _ h
  | freeze a m k ih => intro S S' x h; simp only [srun] at h; cases h
  | getObj r k ih => intro S S' x h; simp only [srun] at h; cases h
  | setObj r o k ih => intro S S' x h; simp only [srun] at h; cases h
  | choose q k ih => intro S S' x h; simp only [srun] at h; cases h
  | sys c k ih => intro S S' x h; simp only [srun] at h; cases h
  | halt e => intro S S' x h; simp only [srun] at h; cases h

theorem srun_none {α : Type} : ∀ (s : Sem α) (S S' : SS) (x : α), srun P β n true s S = some (x, S') → S.hints = [] → S'.obl = S.obl := by
  intro s
  induction s with
  | pure a => intro S S' x h; simp only [srun, Option.some.injEq, Prod.mk.injEq] at h; rw [← h.2]; exact fun _ => rfl
  | load m a k ih => intro S S' x h hh; simp only [srun, hh] at h; cases h
  | store m a v k ih => intro S S' x h; simp only [srun] at h; cases h
  | new o k ih => intro S S' x h; simp only [srun] at h; (repeat' split at h); all_goals first | (cases h; done) | contradiction
  | shape r k ih => intro S S' x h hh; simp only [srun, hh] at h; cases h
  | frozen r k ih => intro S S' x h hh; simp only [srun, hh] at h; cases h
  | program k ih => intro S S' x h; simp only [srun] at h; exact ih _ _ _ _ h
  | mark m k ih => intro S S' x h; simp only [srun] at h; exact ih _ _ _ h
  | freeze a m k ih => intro S S' x h; simp only [srun] at h; cases h
  | getObj r k ih => intro S S' x h; simp only [srun] at h; cases h
  | setObj r o k ih => intro S S' x h; simp only [srun] at h; cases h
  | choose q k ih => intro S S' x h; simp only [srun] at h; cases h
  | sys c k ih => intro S S' x h; simp only [srun] at h; cases h
  | halt e => intro S S' x h; simp only [srun] at h; cases h

theorem cell_of_blk {w : World} {b : Nat} {cs : List Value} {T : TypeId} {a : Addr} {v : Value} (h : w.heap[b]? = some (.cells ⟨cs⟩ T (0, 0))) (hs : a.spot = none) (hb : a.block = b) (hv : cs[a.off]? = some v) : w.cell? a = some v ∧ w.frozen? a = false := by
  subst hb
  refine ⟨?_, ?_⟩
  · simp [World.cell?, h, hs, hv]
  · simp [World.frozen?, h]
theorem step_setCell {w : World} {b : Nat} {cs : List Value} {T : TypeId} {a : Addr} {v : Value} {F : Fp} (h : (HP.blk b cs T).h F w) (hs : a.spot = none) (hb : a.block = b) :
    ∃ F', (HP.blk b (cs.set a.off v) T).h F' (w.setCell a v) ∧ Step F w F' (w.setCell a v) := by
  obtain ⟨h1, h2⟩ := h
  refine ⟨F, ⟨?_, h2⟩, ⟨(Keeps.refl _ _).setCell (.inr ((h2 _).2 hb)) v, fun _ h => .inl h⟩⟩
  subst hb
  simp [World.setCell, Array.getElem?_modify, h1, hs, Array.setIfInBounds_def]
  exact fun h => (List.set_eq_of_length_le h).symm
theorem setCell_size' (w : World) (p : Addr) (v : Value) : (w.setCell p v).heap.size = w.heap.size := by simp [World.setCell]

theorem srun_sound {α : Type} : ∀ (s : Sem α) (S S' : SS) (x : α) (w : World), srun P β n ro s S = some (x, S') → (∀ p, p ∈ S'.obl → p) → Sat β S.hps w → (S.used = false → n = w.heap.size) →
    ∃ w', s.run P w = .ok x w' ∧ Sat β S'.hps w' ∧ (S'.used = false → n = w'.heap.size) ∧ (ro = true → w' = w ∧ S'.hps = S.hps) := by
  intro s
  induction s with
  | pure a =>
    intro S S' x w h _ hS hn
    simp only [srun, Option.some.injEq, Prod.mk.injEq] at h
    obtain ⟨rfl, rfl⟩ := h
    exact ⟨w, rfl, hS, hn, fun _ => ⟨rfl, rfl⟩⟩
  | load m a k ih =>
    intro S S' x w h ho hS hn
    simp only [srun] at h
    repeat' split at h
    all_goals first | (cases h; done) | skip
    · rename_i hp _ hs _ v hv
      have hb : a.block = _ := ho _ (srun_obl _ _ _ _ h _ List.mem_cons_self)
      obtain ⟨F, hF⟩ := hS.get hp
      have hc := (cell_of_blk hF.1 hs hb hv).1
      obtain ⟨w', h1, h2⟩ := ih _ _ _ _ w h ho hS hn
      exact ⟨w', by simp only [Sem.run, hc]; exact h1, h2⟩
    · rename_i v hs hh
      have hc := hS.1.cell (ho _ (srun_obl _ _ _ _ h _ List.mem_cons_self))
      obtain ⟨w', h1, h2⟩ := ih _ _ _ _ w h ho hS hn
      exact ⟨w', by simp only [Sem.run, hc]; exact h1, h2⟩
    · rename_i A hp
      obtain ⟨F, hF⟩ := hS.get hp
      have hc := ho _ (srun_obl _ _ _ _ h _ List.mem_cons_self) F w hF
      obtain ⟨w', h1, h2⟩ := ih _ _ _ _ w h ho hS hn
      exact ⟨w', by simp only [Sem.run, hc]; exact h1, h2⟩
  | store m a v k ih =>
    intro S S' x w h ho hS hn
    simp only [srun] at h
    cases ro with
    | true => simp at h
    | false =>
    simp only at h
    split at h
    · cases h
    · cases h
    rename_i hv1 hv2
    repeat' split at h
    all_goals first | (cases h; done) | skip
    rename_i hp _ hs _ u hu
    have hb : a.block = _ := ho _ (srun_obl _ _ _ _ h _ List.mem_cons_self)
    obtain ⟨F, hF⟩ := hS.get hp
    obtain ⟨hc, hf⟩ := cell_of_blk hF.1 hs hb hu
    have hS' := hS.set hp (fun F hF => step_setCell (v := v) hF hs hb)
    obtain ⟨w', h1, h2⟩ := ih _ _ _ (w.setCell a v) h ho hS' (fun e => by rw [setCell_size']; exact hn e)
    refine ⟨w', ?_, h2.1, h2.2.1, fun e => by cases e⟩
    rw [← h1]
    cases v <;> first | (simp only [Sem.run, hc, hf]; rfl) | exact absurd rfl (hv1 _) | exact absurd rfl (hv2 _)
  | new o k ih =>
    intro S S' x w h ho hS hn
    simp only [srun] at h
    split at h
    · rename_i c T hu
      have hn' := hn hu
      have hS' : Sat β (S.hps ++ [.blk n c.toList T]) (w.alloc (.cells c T (0, 0))) := hS.new (F := fun k => k = n) ⟨by rw [hn']; exact heap_alloc_new w _, fun _ => Iff.rfl⟩ ((Keeps.refl _ _).alloc _) (fun k e => by rw [e, hn']; exact Nat.le_refl _)
      obtain ⟨w', h1, h2⟩ := ih _ _ _ _ (w.alloc (.cells c T (0, 0))) h ho hS' (fun e => by cases e)
      refine ⟨w', ?_, h2.1, h2.2.1, fun e => by cases e⟩
      rw [← h1, hn']
      rfl
    · cases h
  | shape r k ih =>
    intro S S' x w h ho hS hn
    simp only [srun] at h
    repeat' split at h
    all_goals first | (cases h; done) | skip
    rename_i b cs T hp
    have hb : r = b := ho _ (srun_obl _ _ _ _ h _ List.mem_cons_self)
    obtain ⟨F, hF⟩ := hS.get hp
    have hc : w.shape? r = some (T, cs.length) := by simp [World.shape?, hb, hF.1]
    obtain ⟨w', h1, h2⟩ := ih _ _ _ _ w h ho hS hn
    exact ⟨w', by simp only [Sem.run, hc]; exact h1, h2⟩
  | frozen a k ih =>
    intro S S' x w h ho hS hn
    simp only [srun] at h
    repeat' split at h
    all_goals first | (cases h; done) | skip
    rename_i b cs T hp
    have hb : a.block = b := ho _ (srun_obl _ _ _ _ h _ List.mem_cons_self)
    obtain ⟨F, hF⟩ := hS.get hp
    have hc : w.frozen? a = false := by simp [World.frozen?, hb, hF.1]
    obtain ⟨w', h1, h2⟩ := ih _ _ _ _ w h ho hS hn
    exact ⟨w', by simp only [Sem.run, hc]; exact h1, h2⟩
  | program k ih => intro S S' x w h ho hS hn; simp only [srun] at h; exact ih _ _ _ _ w h ho hS hn
  | mark m k ih => intro S S' x w h ho hS hn; simp only [srun] at h; exact ih _ _ _ w h ho hS hn
  | freeze a m k ih => intro S S' x w h; simp only [srun] at h; cases h
  | getObj r k ih => intro S S' x w h; simp only [srun] at h; cases h
  | setObj r o k ih => intro S S' x w h; simp only [srun] at h; cases h
  | choose q k ih => intro S S' x w h; simp only [srun] at h; cases h
  | sys c k ih => intro S S' x w h; simp only [srun] at h; cases h
  | halt e => intro S S' x w h; simp only [srun] at h; cases h
end sound
end Go.Proofs.Ytjpdcppdoonmdaa
