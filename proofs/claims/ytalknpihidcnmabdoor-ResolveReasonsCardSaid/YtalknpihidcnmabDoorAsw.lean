/-
  PROVED HERE: the walks of errors.As at the three pairs that ResolveReasons meets.
  CONDITIONS: as the theorems say.
-/
import Derived.Test.YtalknpihidcnmabDoorAs
namespace Go.Proofs.YtalknpihidcnmabDoor
open Go.RowKit Go.Extern.Stop Go.Stop Go.Extern

set_option maxHeartbeats 4000000 in
theorem as_fail (e : Addr) (t : Addr) (old : Value) (w : World) (hg : ErrTy w) (ht0 : w.cell? t = some old) (hf0 : w.frozen? t = false) :
    Calls Tryd.prog 6 #[.iface 27 (.pointer (some e)), .iface 33 (.pointer (some t))] w fun ev w' => ev = .returned (.bool true) ∧ w' = ((((w.alloc (.cells #[.pointer (some t)] 33)).alloc (.cells #[.pointer (some ⟨1, 33, none⟩), .pointer (some ⟨w.heap.size, 0, none⟩), .int .u64 150] 38)).alloc (.cells #[.pointer (some ⟨1, 33, none⟩), .pointer (some ⟨w.heap.size, 0, none⟩), .int .u64 150] 38)).alloc (.cells #[.pointer (some e)] 27)).setCell t (.pointer (some e)) := by
  have h7 := @run_callFunc_extern Tryd.prog 7 _ (fun args => ReflectliteValue.unpack (args.getD 0 (.tuple #[]))) Tryd.func7 (by kernel_rfl) (by kernel_rfl) (by kernel_rfl) (by kernel_rfl)
  have h8 := @run_callFunc_extern Tryd.prog 8 _ (ReflectliteValue.methodAny (ReflectliteValue.valueError "reflectlite.Value.Type" 0) (fun t _ _ _ => ReflectliteType.toType t)) Tryd.func8 (by kernel_rfl) (by kernel_rfl) (by kernel_rfl) (by kernel_rfl)
  have h9 := @run_callFunc_extern Tryd.prog 9 _ (ReflectliteValue.method (ReflectliteValue.valueError "reflectlite.Value.IsNil" 0) ReflectliteValue.isNil) Tryd.func9 (by kernel_rfl) (by kernel_rfl) (by kernel_rfl) (by kernel_rfl)
  have h28 := @run_callFunc_extern Tryd.prog 28 _ (ReflectliteType.abiMethod fun t => do pure (.int .u8 (← Rtype.kind t))) Tryd.func28 (by kernel_rfl) (by kernel_rfl) (by kernel_rfl) (by kernel_rfl)
  have h39 := @run_callFunc_extern Tryd.prog 39 _ (ReflectliteType.method ReflectliteType.elem) Tryd.func39 (by kernel_rfl) (by kernel_rfl) (by kernel_rfl) (by kernel_rfl)
  have h40 := @run_callFunc_extern Tryd.prog 40 _ (ReflectliteType.relation "Implements" ReflectliteType.implements_) Tryd.func40 (by kernel_rfl) (by kernel_rfl) (by kernel_rfl) (by kernel_rfl)
  have h11 := @run_callFunc_extern Tryd.prog 11 _ ReflectliteType.typeOf Tryd.func11 (by kernel_rfl) (by kernel_rfl) (by kernel_rfl) (by kernel_rfl)
  have h37 := @run_callFunc_extern Tryd.prog 37 _ (ReflectliteType.relation "AssignableTo" ReflectliteType.assignableTo) Tryd.func37 (by kernel_rfl) (by kernel_rfl) (by kernel_rfl) (by kernel_rfl)
  have h12 := @run_callFunc_extern Tryd.prog 12 _ (ReflectliteValue.method (ReflectliteValue.valueError "reflectlite.Value.Elem" 0) ReflectliteValue.elem) Tryd.func12 (by kernel_rfl) (by kernel_rfl) (by kernel_rfl) (by kernel_rfl)
  have h13 := @run_callFunc_extern Tryd.prog 13 _ ReflectliteValue.set Tryd.func13 (by kernel_rfl) (by kernel_rfl) (by kernel_rfl) (by kernel_rfl)
  have f_typeOf27 := Tryd.typeOf27
  have f_methodAssignableTo := Tryd.methodAssignableTo
  have f_assign27 := Tryd.assign27
  have f_valueOf27 := Tryd.valueOf27
  have f_valueOf33 := Tryd.valueOf33
  have f_type33 := Tryd.type33
  have f_methodKind := Tryd.methodKind
  have f_methodElem := Tryd.methodElem
  have f_methodImplements := Tryd.methodImplements
  have f_kind33 := Tryd.kind33
  have f_kind27 := Tryd.kind27
  have f_elem33 := Tryd.elem33
  have f_implements27 := Tryd.implements27
  have n9 := Tryd.isNil33 ⟨w.heap.size, 0, none⟩ t ((w.alloc (.cells #[.pointer (some t)] 33)).alloc (.cells #[.pointer (some ⟨1, 33, none⟩), .pointer (some ⟨w.heap.size, 0, none⟩), .int .u64 150] 38)) (by simp)
  have hlt : 0 < w.heap.size := by
    unfold ErrTy at hg
    rcases Nat.eq_zero_or_pos w.heap.size with h0 | h
    · simp [World.cell?, h0] at hg
    · exact h
  have hg2 : ((w.alloc (.cells #[.pointer (some t)] 33)).alloc (.cells #[.pointer (some ⟨1, 33, none⟩), .pointer (some ⟨w.heap.size, 0, none⟩), .int .u64 150] 38)).cell? ⟨0, 0, none⟩ = some (.iface 49 (.agg #[.pointer (some ⟨1, 29, none⟩)])) := by
    rw [World.cell?_alloc_lt _ _ ⟨0, 0, none⟩ (by simp), World.cell?_alloc_lt _ _ ⟨0, 0, none⟩ hlt]; exact hg
  have htl : t.block < w.heap.size := by
    rcases Nat.lt_or_ge t.block w.heap.size with h | h
    · exact h
    · simp [World.cell?, Array.getElem?_eq_none h] at ht0
  have el := Tryd.elemV33 ⟨w.heap.size, 0, none⟩ t (((w.alloc (.cells #[.pointer (some t)] 33)).alloc (.cells #[.pointer (some ⟨1, 33, none⟩), .pointer (some ⟨w.heap.size, 0, none⟩), .int .u64 150] 38)).alloc (.cells #[.pointer (some ⟨1, 33, none⟩), .pointer (some ⟨w.heap.size, 0, none⟩), .int .u64 150] 38)) (by rw [World.cell?_alloc_lt _ _ ⟨w.heap.size, 0, none⟩ (by simp; omega)]; simp)
  have st := Tryd.set27 t ⟨w.heap.size + 1 + 1 + 1, 0, none⟩ e old
    ((((w.alloc (.cells #[.pointer (some t)] 33)).alloc (.cells #[.pointer (some ⟨1, 33, none⟩), .pointer (some ⟨w.heap.size, 0, none⟩), .int .u64 150] 38)).alloc (.cells #[.pointer (some ⟨1, 33, none⟩), .pointer (some ⟨w.heap.size, 0, none⟩), .int .u64 150] 38)).alloc (.cells #[.pointer (some e)] 27))
    (by rw [World.cell?_alloc_at _ _ _ _ (by simp)]; rfl)
    (by rw [World.cell?_alloc_lt _ _ t (by simp; omega), World.cell?_alloc_lt _ _ t (by simp; omega), World.cell?_alloc_lt _ _ t (by simp; omega), World.cell?_alloc_lt _ _ t htl]; exact ht0)
    (by rw [World.frozen?_alloc_old _ _ t (by simp; omega), World.frozen?_alloc_old _ _ t (by simp; omega), World.frozen?_alloc_old _ _ t (by simp; omega), World.frozen?_alloc_old _ _ t (Nat.ne_of_lt htl)]; exact hf0)
  unfold ErrTy at hg
  go_enter Tryd.func6, Tryd.ntmps6
  go_wp2
  refine wp_loop_rounds 1 ?_
  rw [rounds_succ]
  go_wp2
  go_ret
  exact ⟨rfl, rfl⟩

set_option maxHeartbeats 4000000 in
theorem as_errno (n : Int) (t : Addr) (old : Value) (w : World) (hg : ErrTy w) (ht0 : w.cell? t = some old) (hf0 : w.frozen? t = false) :
    Calls Tryd.prog 6 #[.iface 22 (.int .i64 n), .iface 34 (.pointer (some t))] w fun ev w' => ev = .returned (.bool true) ∧ w' = ((((w.alloc (.cells #[.pointer (some t)] 34)).alloc (.cells #[.pointer (some ⟨1, 34, none⟩), .pointer (some ⟨w.heap.size, 0, none⟩), .int .u64 150] 38)).alloc (.cells #[.pointer (some ⟨1, 34, none⟩), .pointer (some ⟨w.heap.size, 0, none⟩), .int .u64 150] 38)).alloc (.cells #[.int .i64 n] 22)).setCell t (.int .i64 n) := by
  have h7 := @run_callFunc_extern Tryd.prog 7 _ (fun args => ReflectliteValue.unpack (args.getD 0 (.tuple #[]))) Tryd.func7 (by kernel_rfl) (by kernel_rfl) (by kernel_rfl) (by kernel_rfl)
  have h8 := @run_callFunc_extern Tryd.prog 8 _ (ReflectliteValue.methodAny (ReflectliteValue.valueError "reflectlite.Value.Type" 0) (fun t _ _ _ => ReflectliteType.toType t)) Tryd.func8 (by kernel_rfl) (by kernel_rfl) (by kernel_rfl) (by kernel_rfl)
  have h9 := @run_callFunc_extern Tryd.prog 9 _ (ReflectliteValue.method (ReflectliteValue.valueError "reflectlite.Value.IsNil" 0) ReflectliteValue.isNil) Tryd.func9 (by kernel_rfl) (by kernel_rfl) (by kernel_rfl) (by kernel_rfl)
  have h28 := @run_callFunc_extern Tryd.prog 28 _ (ReflectliteType.abiMethod fun t => do pure (.int .u8 (← Rtype.kind t))) Tryd.func28 (by kernel_rfl) (by kernel_rfl) (by kernel_rfl) (by kernel_rfl)
  have h39 := @run_callFunc_extern Tryd.prog 39 _ (ReflectliteType.method ReflectliteType.elem) Tryd.func39 (by kernel_rfl) (by kernel_rfl) (by kernel_rfl) (by kernel_rfl)
  have h40 := @run_callFunc_extern Tryd.prog 40 _ (ReflectliteType.relation "Implements" ReflectliteType.implements_) Tryd.func40 (by kernel_rfl) (by kernel_rfl) (by kernel_rfl) (by kernel_rfl)
  have h11 := @run_callFunc_extern Tryd.prog 11 _ ReflectliteType.typeOf Tryd.func11 (by kernel_rfl) (by kernel_rfl) (by kernel_rfl) (by kernel_rfl)
  have h37 := @run_callFunc_extern Tryd.prog 37 _ (ReflectliteType.relation "AssignableTo" ReflectliteType.assignableTo) Tryd.func37 (by kernel_rfl) (by kernel_rfl) (by kernel_rfl) (by kernel_rfl)
  have h12 := @run_callFunc_extern Tryd.prog 12 _ (ReflectliteValue.method (ReflectliteValue.valueError "reflectlite.Value.Elem" 0) ReflectliteValue.elem) Tryd.func12 (by kernel_rfl) (by kernel_rfl) (by kernel_rfl) (by kernel_rfl)
  have h13 := @run_callFunc_extern Tryd.prog 13 _ ReflectliteValue.set Tryd.func13 (by kernel_rfl) (by kernel_rfl) (by kernel_rfl) (by kernel_rfl)
  have f_typeOf22 := Tryd.typeOf22
  have f_methodAssignableTo := Tryd.methodAssignableTo
  have f_assign22 := Tryd.assign22
  have f_valueOf22 := Tryd.valueOf22
  have f_valueOf34 := Tryd.valueOf34
  have f_type34 := Tryd.type34
  have f_methodKind := Tryd.methodKind
  have f_methodElem := Tryd.methodElem
  have f_methodImplements := Tryd.methodImplements
  have f_kind34 := Tryd.kind34
  have f_kind22 := Tryd.kind22
  have f_elem34 := Tryd.elem34
  have f_implements22 := Tryd.implements22
  have n9 := Tryd.isNil34 ⟨w.heap.size, 0, none⟩ t ((w.alloc (.cells #[.pointer (some t)] 34)).alloc (.cells #[.pointer (some ⟨1, 34, none⟩), .pointer (some ⟨w.heap.size, 0, none⟩), .int .u64 150] 38)) (by simp)
  have hlt : 0 < w.heap.size := by
    unfold ErrTy at hg
    rcases Nat.eq_zero_or_pos w.heap.size with h0 | h
    · simp [World.cell?, h0] at hg
    · exact h
  have hg2 : ((w.alloc (.cells #[.pointer (some t)] 34)).alloc (.cells #[.pointer (some ⟨1, 34, none⟩), .pointer (some ⟨w.heap.size, 0, none⟩), .int .u64 150] 38)).cell? ⟨0, 0, none⟩ = some (.iface 49 (.agg #[.pointer (some ⟨1, 29, none⟩)])) := by
    rw [World.cell?_alloc_lt _ _ ⟨0, 0, none⟩ (by simp), World.cell?_alloc_lt _ _ ⟨0, 0, none⟩ hlt]; exact hg
  have htl : t.block < w.heap.size := by
    rcases Nat.lt_or_ge t.block w.heap.size with h | h
    · exact h
    · simp [World.cell?, Array.getElem?_eq_none h] at ht0
  have el := Tryd.elemV34 ⟨w.heap.size, 0, none⟩ t (((w.alloc (.cells #[.pointer (some t)] 34)).alloc (.cells #[.pointer (some ⟨1, 34, none⟩), .pointer (some ⟨w.heap.size, 0, none⟩), .int .u64 150] 38)).alloc (.cells #[.pointer (some ⟨1, 34, none⟩), .pointer (some ⟨w.heap.size, 0, none⟩), .int .u64 150] 38)) (by rw [World.cell?_alloc_lt _ _ ⟨w.heap.size, 0, none⟩ (by simp; omega)]; simp)
  have st := Tryd.set22 t ⟨w.heap.size + 1 + 1 + 1, 0, none⟩ n old
    ((((w.alloc (.cells #[.pointer (some t)] 34)).alloc (.cells #[.pointer (some ⟨1, 34, none⟩), .pointer (some ⟨w.heap.size, 0, none⟩), .int .u64 150] 38)).alloc (.cells #[.pointer (some ⟨1, 34, none⟩), .pointer (some ⟨w.heap.size, 0, none⟩), .int .u64 150] 38)).alloc (.cells #[.int .i64 n] 22))
    (by rw [World.cell?_alloc_at _ _ _ _ (by simp)]; rfl)
    (by rw [World.cell?_alloc_lt _ _ t (by simp; omega), World.cell?_alloc_lt _ _ t (by simp; omega), World.cell?_alloc_lt _ _ t (by simp; omega), World.cell?_alloc_lt _ _ t htl]; exact ht0)
    (by rw [World.frozen?_alloc_old _ _ t (by simp; omega), World.frozen?_alloc_old _ _ t (by simp; omega), World.frozen?_alloc_old _ _ t (by simp; omega), World.frozen?_alloc_old _ _ t (Nat.ne_of_lt htl)]; exact hf0)
  unfold ErrTy at hg
  go_enter Tryd.func6, Tryd.ntmps6
  go_wp2
  refine wp_loop_rounds 1 ?_
  rw [rounds_succ]
  go_wp2
  go_ret
  exact ⟨rfl, rfl⟩

end Go.Proofs.YtalknpihidcnmabDoor
