/-
  PROVED HERE: the law WorldMemory, in its second form: the script is not kept, and what is answered is new memory: it returns true for every input whose reading is of bulk at most 1048576, and its arguments read as before.
  CONDITIONS: the arguments hold together at most 1048576 values and letters (the given second form).
-/
import Derived.Test.YtbnfiigafobejaaGreatMWmemory6
import Derived.JoinedCond
import Derived.Deep.DeepHandedRow
import Derived.Test.YtbnfiigafobejaaGreatRows
namespace Go.Proofs.YtbnfiigafobejaaGreat.worldMemory
open Go.ChangeShapes Go.WideShapes Go.ChangeAt Go.RowKit
set_option maxRecDepth 100000 in
theorem contract (H : Type) (enc : TypeId × Value → H) (W : World) (base : Nat) (args : Array Value) (ds gs : List (DataW H)) (before : List MemPlace)
    (hval : ∀ (j : Nat) t v, Tryz.f4.params[j]? = some t → args[j]? = some v → Value.okWide Tryz.prog W .any base t v)
    (hW : DataW.Whole enc Tryz.prog Tryz.f4.params.toList Rows.worldMemorySpec.vars false W args.toList ds gs before) (hk : Rows.uptoSmall H (ds ++ gs) = true) (hsh : W.ShapedOpen Tryz.prog) :
    Calls Tryz.prog 4 args W fun e W' => ∃ v, e = .returned v ∧ Rows.worldMemorySpec.post enc Tryz.prog Tryz.f4 false true false false W args v W' := by
  have hW' := hW
  obtain ⟨p, q, hA0, hV, rfl, hfz, hnd⟩ := hW
  have hA : DataW.TrodAll enc Tryz.prog W 0 (fun _ => true) true Tryz.f4.params.toList args.toList ds p := hA0
  rw [Tryz.params4] at hA hval
  obtain ⟨v0, vs0, d0, ds0, p0, q0, hargs, rfl, rfl, h0, r0⟩ := trodAll_cons hA
  obtain ⟨v1, vs1, d1, ds1, p1, q1, rfl, rfl, rfl, h1, r1⟩ := trodAll_cons r0
  obtain ⟨v2, vs2, d2, ds2, p2, q2, rfl, rfl, rfl, h2, r2⟩ := trodAll_cons r1
  obtain ⟨rfl, rfl, rfl⟩ := trodAll_nil r2
  obtain rfl : args = #[v0, v1, v2] := by cases args; simp_all
  obtain ⟨rfl, rfl⟩ := trodVars_none hV
  have hk1 : Rows.uptoBulkAll ([d0, d1, d2] ++ []) ≤ 1048576 := of_decide_eq_true hk
  obtain ⟨A0, c0, ns0, L0, rt0, X0, Af0, cf0, fs0, Aa0, ca0, xs0, rfl, hG0, hB0, hX0, hrw0, hF0, hfb0, hfc0, hRA0, hab0, hac0⟩ := open_wstart (hval 0 34 v0 rfl rfl) h0
  have hal0 := hab0.len
  have hb0 : Rows.uptoBulk d0 ≤ 1048576 := Nat.le_trans (bulk_mem (by simp)) hk1
  have hB0 := hB0.wide hb0
  have hfb0 := hfb0.wide hb0
  have hab0 := hab0.wide hb0
  obtain ⟨A1, c1, xs1, rfl, hS1, hl1, hc1⟩ := open_calls (hval 1 35 v1 rfl rfl) h1 (Nat.le_trans (bulk_mem (by simp)) hk1)
  obtain ⟨a2, rfl, rfl, rfl, w2⟩ := open_int Tryz.underlying5 (hval 2 5 v2 rfl rfl) h2
  refine (law_worldMemory W A0 c0 ns0 L0 hG0 hB0 X0 rt0 Af0 cf0 fs0 hF0 hfb0 Aa0 ca0 xs0 hRA0 hab0 hrw0 A1 c1 xs1 hS1 hl1 hc1 (glob_ok hsh) a2).top.mono fun e W' ⟨⟨v, l, he, hv⟩, hb⟩ => ?_
  subst hv
  exact ⟨_, he, law_post laidOut hW' rfl (by kernel_rfl) rfl Tryz.underlying4 rfl rfl rfl hb⟩
set_option maxRecDepth 100000 in
theorem lifted (os : Os) (started : os.Started) (H : Type) (enc : TypeId × Value → H) (F : Stop.Interp) :
    ReturnsInHanded {} Tryz.checked os 4 .any ((Rows.OpenSpec.upto Rows.worldMemorySpec).preRow enc Tryz.prog Tryz.f4 Rows.worldMemoryUptoRow.domain false []) (((Rows.OpenSpec.upto Rows.worldMemorySpec).at F).post enc Tryz.prog Tryz.f4 false true false false) := by
  refine returnsInHanded_of_row (C := Tryz.checked) (s := Rows.OpenSpec.upto Rows.worldMemorySpec) (by kernel_rfl) started (by kernel_rfl) Tryz.func4
    (witness_row_at (enc := enc) (C := Tryz.checked) false (World.holding Tryz.prog os ⟨#[], #[], []⟩) #[.agg #[.slice none 0 0, .int .i64 0, .int .i64 0, .int .i64 0, .int .i64 0, .int .i64 0, .int .i64 0, .slice none 0 0, .slice none 0 0], .slice none 0 0, .int .u8 0] rfl (by kernel_rfl) (by kernel_rfl) (by kernel_rfl)
      (OpenSpec.preRow_of_cond 8 (x := ([.agg [.agg [.nil], .lit (.int .i64 0), .agg [.lit (.int .i64 0), .lit (.int .i64 0), .lit (.int .i64 0), .agg [.lit (.int .i64 0), .lit (.int .i64 0)]], .agg [.nil, .nil]], .nil, .lit (.int .u8 0)], [], [])) (by kernel_rfl) (by kernel_rfl) (fun k hk => by cases hk; kernel_rfl) (by kernel_rfl) (laidMetH_nil _ _))) ?_
  intro W base args ds gs before hval hW _ hk _ _ hsh _
  exact contract H enc W base args ds gs before hval hW (hk _ rfl) hsh
theorem c1 : Tryz.pinned.checked.prog.inPlace 4 = Rows.worldMemoryUptoRow.inPlace := by kernel_rfl
theorem c2 : Tryz.pinned.checked.prog.unfollowed 4 = Rows.worldMemoryUptoRow.unfollowed := by kernel_rfl
theorem c3 : Tryz.pinned.checked.prog.recurses 4 = Rows.worldMemoryUptoRow.recurses := by kernel_rfl
theorem c4 : Tryz.pinned.checked.prog.varsNamed 4 = Rows.worldMemoryUptoRow.named := by kernel_rfl
theorem closed : joinedFacts Tryz.pinned.checked.prog 4 Tryz.f4 (Rows.OpenSpec.upto Rows.worldMemorySpec).bare Rows.worldMemoryUptoRow = true := by
  unfold joinedFacts
  rw [c1, c2, c3, c4]
  kernel_rfl
theorem over : Rows.worldMemoryUptoRow.holds Tryz.pinned (Rows.OpenSpec.upto Rows.worldMemorySpec) :=
  OpenClaim.holds_of_cond 4 Tryz.f4 rfl rfl rfl rfl rfl rfl rfl ⟨rfl, rfl, rfl, rfl, rfl⟩ rfl rfl rfl rfl rfl (by kernel_rfl) Tryz.func4 closed
    (of_decide_eq_true (by kernel_rfl)) (by unfold Func.isWrapper; first | (rw [if_pos (by decide +kernel)]; kernel_rfl) | (rw [if_neg (by decide +kernel)]; exact ⟨rfl, rfl⟩))
    (fun os started H enc _ F => by rw [OpenClaim.pre_eq_preRow]; exact lifted os started H enc F)
theorem proved : Rows.WorldMemoryUptoSaid := over
end Go.Proofs.YtbnfiigafobejaaGreat.worldMemory
