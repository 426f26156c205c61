/-
  PROVED HERE: the judgements of the logic: an operation, a run of operations within a region, code; calls, loops, branches.
  CONDITIONS: none. No statement of the seat is proved here.
-/
import Derived.Test.YtjpdcppdoonmdaaVr
namespace Go.Proofs.Ytjpdcppdoonmdaa
open Go.RowKit

/-- what is told of an operation ahead: where its cells lie; an index as a natural number; another spelling of its value -/
structure OH where
  hs : List Hint := []
  num : Option Nat := none
  num2 : Option Nat := none
  base : Option Addr := none
  conv : Option Value := none

def o_ : OH := ⟨[], none, none, none, none⟩
def blkOf (A : Option Addr) : Nat := match A with
  | some a => a.block
  | none => 0
def offOf (A : Option Addr) : Nat := match A with
  | some a => a.off
  | none => 0
/-- one operation, run by the kernel -/
def orun0 (P : Program) (β : Bs) (n : Nat) (ro : Bool) (ev : Operand → Value) (o : Oper) (h : OH) (S : SS) : Option (Value × SS) :=
  match h.num with
  | none =>
    match srun P β n ro (execOp ev o) { S with hints := h.hs } with
    | some (.value v, S') => some (v, S')
    | some (.skip, S') => some (undef, S')
    | _ => none
  | some m =>
    match o.op with
    | .indexAddr t x ix =>
      match P.underlying t with
      | some (.slice e) =>
        match P.info? e with
        | some i =>
          match ev x with
          | .slice A len _ =>
            match ev ix with
            | .int _ z =>
              match h.base with
              | some a => some (.pointer (some ⟨a.block, a.off + m * i.size, none⟩), { S with obl := (z = (m : Int)) :: (m < len) :: (a.spot = none) :: (A = some a) :: S.obl })
              | none =>
                match A with
                | some a => some (.pointer (some ⟨a.block, a.off + m * i.size, none⟩), { S with obl := (z = (m : Int)) :: (m < len) :: (a.spot = none) :: S.obl })
                | none => none
            | _ => none
          | _ => none
        | none => none
      | _ => none
    | .index t x ix =>
      match P.underlying t with
      | some .string =>
        match ev x with
        | .string s =>
          match ev ix with
          | .int _ z => some (.int .u8 (s.data.getD m 0).toNat, { S with obl := (z = (m : Int)) :: (m < s.size) :: S.obl })
          | _ => none
        | _ => none
      | _ => none
    | .slice t x lo hi mx =>
      match mx with
      | some _ => none
      | none =>
      match P.underlying t with
      | some .string =>
        match ev x with
        | .string s =>
          match lo, hi with
          | none, some hv =>
            match ev hv with
            | .int _ z => some (.string (s.extract 0 m), { S with obl := (z = (m : Int)) :: (m ≤ s.size) :: S.obl })
            | _ => none
          | some lv, none =>
            match ev lv with
            | .int _ z => some (.string (s.extract m s.size), { S with obl := (z = (m : Int)) :: (m ≤ s.size) :: S.obl })
            | _ => none
          | some lv, some hv =>
            match h.num2 with
            | some m2 =>
              match ev lv with
              | .int _ y =>
                match ev hv with
                | .int _ z => some (.string (s.extract m2 m), { S with obl := (z = (m : Int)) :: (y = (m2 : Int)) :: (m ≤ s.size) :: (m2 ≤ m) :: S.obl })
                | _ => none
              | _ => none
            | none => none
          | none, none => none
        | _ => none
      | some (.slice e) =>
        match P.info? e with
        | some i =>
          match ev x with
          | .slice A len cap =>
            match lo, hi with
            | none, some hv =>
              match ev hv with
              | .int _ z => some (.slice A m cap, { S with obl := (z = (m : Int)) :: (m ≤ cap) :: S.obl })
              | _ => none
            | some lv, none =>
              match ev lv with
              | .int _ z =>
                match h.base with
                | some a => some (.slice (some ⟨a.block, a.off + m * i.size, none⟩) (len - m) (cap - m), { S with obl := (z = (m : Int)) :: (m ≤ len) :: (m < cap) :: (a.spot = none) :: (A = some a) :: S.obl })
                | none =>
                  match A with
                  | some a => some (.slice (some ⟨a.block, a.off + m * i.size, none⟩) (len - m) (cap - m), { S with obl := (z = (m : Int)) :: (m ≤ len) :: (m < cap) :: (a.spot = none) :: S.obl })
                  | none => none
              | _ => none
            | _, _ => none
          | _ => none
        | none => none
      | _ => none
    | _ => none
def orun (P : Program) (β : Bs) (n : Nat) (ro : Bool) (ev : Operand → Value) (o : Oper) (h : OH) (S : SS) : Option (Value × SS) :=
  match orun0 P β n ro ev o h S with
  | some (v, S') =>
    match h.conv with
    | none => some (v, S')
    | some v' => some (v', { S' with obl := (v = v') :: S'.obl })
  | none => none

def Ran (P : Program) (ev : Operand → Value) (o : Oper) (w : World) (v : Value) (w' : World) : Prop :=
  (execOp ev o).run P w = .ok (.value v) w' ∨ (v = undef ∧ (execOp ev o).run P w = .ok .skip w')

theorem runsize {P : Program} {e : TypeId} {i : TypeInfo} (h : P.info? e = some i) (w : World) : (sizeOf e).run P w = .ok i.size w := by
  have h1 : sizeOf e = .program fun p => (match p.info? e with | some i => Sem.pure i | none => stuck "no such type").bind fun i => .pure i.size := rfl
  rw [h1]
  simp only [Sem.run, h]
  rfl

section orun
variable {P : Program} {β : Bs} {n : Nat} {ro : Bool} {ev : Operand → Value} {o : Oper} {h : OH} {S S' : SS} {v : Value}
theorem orun0_obl (hr : orun0 P β n ro ev o h S = some (v, S')) : ∀ p, p ∈ S.obl → p ∈ S'.obl := by
  intro p hp
  unfold orun0 at hr
  repeat' split at hr
  all_goals first | (cases hr; done) | skip
  · rename_i h0; cases hr; exact srun_obl _ _ _ _ h0 p hp
  · rename_i h0; cases hr; exact srun_obl _ _ _ _ h0 p hp
  all_goals (cases hr; simp [hp])
theorem orun0_sound {w : World} (hr : orun0 P β n ro ev o h S = some (v, S')) (ho : ∀ p, p ∈ S'.obl → p) (hS : Sat β S.hps w) (hn : S.used = false → n = w.heap.size) :
    ∃ w', Ran P ev o w v w' ∧ Sat β S'.hps w' ∧ (S'.used = false → n = w'.heap.size) ∧ (ro = true → w' = w ∧ S'.hps = S.hps) := by
  unfold orun0 at hr
  repeat' split at hr
  all_goals first | (cases hr; done) | skip
  · rename_i h0; cases hr
    obtain ⟨w', h1, h2⟩ := srun_sound _ _ _ _ w h0 ho hS hn
    exact ⟨w', .inl h1, h2⟩
  · rename_i h0; cases hr
    obtain ⟨w', h1, h2⟩ := srun_sound _ _ _ _ w h0 ho hS hn
    exact ⟨w', .inr ⟨rfl, h1⟩, h2⟩
  · rename_i m _ _ t x ix hop _ e hu _ i hi _ A len cap hx _ k z hix _ a _
    cases hr
    have e1 : z = (m : Int) := ho _ (by simp)
    have e2 : m < len := ho _ (by simp)
    have e3 : a.spot = none := ho _ (by simp)
    have e4 : A = some a := ho _ (by simp)
    subst e4
    refine ⟨w, .inl ?_, hS, hn, fun _ => ⟨rfl, rfl⟩⟩
    have ea : a.add (m * i.size) = ⟨a.block, a.off + m * i.size, none⟩ := by
      unfold Addr.add
      split
      · rename_i h0; cases a; simp_all
      · rfl
    obtain ⟨dst, op, type, pos, after, guard⟩ := o
    cases hop
    subst e1
    have h1 : (underlying t).run P w = .ok (.slice e) w := run_underlying hu w
    have h2 : (sizeOf e).run P w = .ok i.size w := runsize hi w
    simp [execOp, Instr.indexAt, hx, hix, go_sem, h1, h2, e2, ea]
  · rename_i m _ _ t x ix hop _ e hu _ i hi _ len cap _ k z hix _ _ _ a hx
    cases hr
    have e1 : z = (m : Int) := ho _ (by simp)
    have e2 : m < len := ho _ (by simp)
    have e3 : a.spot = none := ho _ (by simp)
    refine ⟨w, .inl ?_, hS, hn, fun _ => ⟨rfl, rfl⟩⟩
    have ea : a.add (m * i.size) = ⟨a.block, a.off + m * i.size, none⟩ := by
      unfold Addr.add
      split
      · rename_i h0; cases a; simp_all
      · rfl
    obtain ⟨dst, op, type, pos, after, guard⟩ := o
    cases hop
    subst e1
    have h1 : (underlying t).run P w = .ok (.slice e) w := run_underlying hu w
    have h2 : (sizeOf e).run P w = .ok i.size w := runsize hi w
    simp [execOp, Instr.indexAt, hx, hix, go_sem, h1, h2, e2, ea]
  · rename_i m _ _ t x ix hop _ hu _ s hx _ k z hix
    cases hr
    have e1 : z = (m : Int) := ho _ (by simp)
    have e2 : m < s.size := ho _ (by simp)
    refine ⟨w, .inl ?_, hS, hn, fun _ => ⟨rfl, rfl⟩⟩
    obtain ⟨dst, op, type, pos, after, guard⟩ := o
    cases hop
    subst e1
    have h1 : (underlying t).run P w = .ok .string w := run_underlying hu w
    simp [execOp, Instr.index, hx, hix, go_sem, h1, e2]
    rfl
  · rename_i _ m _ _ t x mx _ hu _ s hx lo hi hv hop _ k z hz
    cases hr
    have e1 : z = (m : Int) := ho _ (by simp)
    have e2 : m ≤ s.size := ho _ (by simp)
    refine ⟨w, .inl ?_, hS, hn, fun _ => ⟨rfl, rfl⟩⟩
    have h1 : (underlying t).run P w = .ok .string w := run_underlying hu w
    obtain ⟨dst, op, type, pos, after, guard⟩ := o
    cases hop
    subst e1
    simp [execOp, Instr.sliceAt, Instr.slice, Instr.sliceBounds, Instr.sliceBound, asIntOf, hx, hz, go_sem, h1, e2]
  · rename_i _ m _ _ t x mx _ hu _ s hx lo hi lv hop _ k z hz
    cases hr
    have e1 : z = (m : Int) := ho _ (by simp)
    have e2 : m ≤ s.size := ho _ (by simp)
    refine ⟨w, .inl ?_, hS, hn, fun _ => ⟨rfl, rfl⟩⟩
    have h1 : (underlying t).run P w = .ok .string w := run_underlying hu w
    obtain ⟨dst, op, type, pos, after, guard⟩ := o
    cases hop
    subst e1
    simp [execOp, Instr.sliceAt, Instr.slice, Instr.sliceBounds, Instr.sliceBound, asIntOf, hx, hz, go_sem, h1, e2]
  · rename_i _ m _ _ t x mx _ hu _ s hx lo hi lv hv hop _ m2 hm2 _ k y hy _ k' z hz
    cases hr
    have e1 : z = (m : Int) := ho _ (by simp)
    have e1' : y = (m2 : Int) := ho _ (by simp)
    have e2 : m ≤ s.size := ho _ (by simp)
    have e3 : m2 ≤ m := ho _ (by simp)
    refine ⟨w, .inl ?_, hS, hn, fun _ => ⟨rfl, rfl⟩⟩
    have h1 : (underlying t).run P w = .ok .string w := run_underlying hu w
    obtain ⟨dst, op, type, pos, after, guard⟩ := o
    cases hop
    subst e1
    subst e1'
    simp [execOp, Instr.sliceAt, Instr.slice, Instr.sliceBounds, Instr.sliceBound, asIntOf, hx, hy, hz, go_sem, h1, e2, e3]
  · rename_i _ m _ _ t x mx _ e hu _ i hi _ A len cap hx lo hi' hv hop _ k z hz
    cases hr
    have e1 : z = (m : Int) := ho _ (by simp)
    have e2 : m ≤ cap := ho _ (by simp)
    refine ⟨w, .inl ?_, hS, hn, fun _ => ⟨rfl, rfl⟩⟩
    have h1 : (underlying t).run P w = .ok (.slice e) w := run_underlying hu w
    have h2 : (sizeOf e).run P w = .ok i.size w := runsize hi w
    obtain ⟨dst, op, type, pos, after, guard⟩ := o
    cases hop
    subst e1
    cases A <;> simp [execOp, Instr.sliceAt, Instr.slice, Instr.sliceBounds, Instr.sliceBound, asIntOf, hx, hz, go_sem, h1, h2, e2, Addr.add]
  · rename_i _ m _ _ t x mx _ e hu _ i hi _ A len cap hx lo hi' lv hop _ k z hz _ a _
    cases hr
    have e1 : z = (m : Int) := ho _ (by simp)
    have e2 : m ≤ len := ho _ (by simp)
    have e3 : m < cap := ho _ (by simp)
    have e4 : a.spot = none := ho _ (by simp)
    have e6 : A = some a := ho _ (by simp)
    subst e6
    refine ⟨w, .inl ?_, hS, hn, fun _ => ⟨rfl, rfl⟩⟩
    have h1 : (underlying t).run P w = .ok (.slice e) w := run_underlying hu w
    have h2 : (sizeOf e).run P w = .ok i.size w := runsize hi w
    have ea : a.add (m * i.size) = ⟨a.block, a.off + m * i.size, none⟩ := by
      unfold Addr.add
      split
      · rename_i h0; cases a; simp_all
      · rfl
    have e5 : ¬ cap = m := by omega
    obtain ⟨dst, op, type, pos, after, guard⟩ := o
    cases hop
    subst e1
    simp [execOp, Instr.sliceAt, Instr.slice, Instr.sliceBounds, Instr.sliceBound, asIntOf, hx, hz, go_sem, h1, h2, e2, e5, ea]
  · rename_i _ m _ _ t x mx _ e hu _ i hi _ len cap lo hi' lv hop _ k z hz _ _ _ a hx
    cases hr
    have e1 : z = (m : Int) := ho _ (by simp)
    have e2 : m ≤ len := ho _ (by simp)
    have e3 : m < cap := ho _ (by simp)
    have e4 : a.spot = none := ho _ (by simp)
    refine ⟨w, .inl ?_, hS, hn, fun _ => ⟨rfl, rfl⟩⟩
    have h1 : (underlying t).run P w = .ok (.slice e) w := run_underlying hu w
    have h2 : (sizeOf e).run P w = .ok i.size w := runsize hi w
    have ea : a.add (m * i.size) = ⟨a.block, a.off + m * i.size, none⟩ := by
      unfold Addr.add
      split
      · rename_i h0; cases a; simp_all
      · rfl
    have e5 : ¬ cap = m := by omega
    obtain ⟨dst, op, type, pos, after, guard⟩ := o
    cases hop
    subst e1
    simp [execOp, Instr.sliceAt, Instr.slice, Instr.sliceBounds, Instr.sliceBound, asIntOf, hx, hz, go_sem, h1, h2, e2, e5, ea]
theorem orun_obl (hr : orun P β n ro ev o h S = some (v, S')) : ∀ p, p ∈ S.obl → p ∈ S'.obl := by
  intro p hp
  unfold orun at hr
  repeat' split at hr
  all_goals first | (cases hr; done) | skip
  · rename_i h0 _ _; cases hr; exact orun0_obl h0 p hp
  · rename_i h0 _ _ _; cases hr; exact List.mem_cons_of_mem _ (orun0_obl h0 p hp)
theorem orun_sound {w : World} (hr : orun P β n ro ev o h S = some (v, S')) (ho : ∀ p, p ∈ S'.obl → p) (hS : Sat β S.hps w) (hn : S.used = false → n = w.heap.size) :
    ∃ w', Ran P ev o w v w' ∧ Sat β S'.hps w' ∧ (S'.used = false → n = w'.heap.size) ∧ (ro = true → w' = w ∧ S'.hps = S.hps) := by
  unfold orun at hr
  repeat' split at hr
  all_goals first | (cases hr; done) | skip
  · rename_i h0 _ _; cases hr; exact orun0_sound h0 ho hS hn
  · rename_i v0 S0 h0 _ v' _
    cases hr
    have e : v0 = v := ho _ List.mem_cons_self
    subst e
    exact orun0_sound (S' := S0) h0 (fun p hp => ho p (List.mem_cons_of_mem _ hp)) hS hn
theorem orun0_ro (hr : orun0 P β n true ev o h S = some (v, S')) : S'.hps = S.hps ∧ S'.used = S.used := by
  unfold orun0 at hr
  repeat' split at hr
  all_goals first | (cases hr; done) | skip
  · rename_i h0; cases hr; (have h' := srun_ro _ _ _ _ h0; exact h')
  · rename_i h0; cases hr; (have h' := srun_ro _ _ _ _ h0; exact h')
  all_goals (cases hr; exact ⟨rfl, rfl⟩)
theorem orun_ro (hr : orun P β n true ev o h S = some (v, S')) : S'.hps = S.hps ∧ S'.used = S.used := by
  unfold orun at hr
  repeat' split at hr
  all_goals first | (cases hr; done) | skip
  · rename_i h0 _ _; cases hr; exact orun0_ro h0
  · rename_i v0 S0 h0 _ v' _; cases hr; exact orun0_ro (S' := S0) h0
end orun
end Go.Proofs.Ytjpdcppdoonmdaa
