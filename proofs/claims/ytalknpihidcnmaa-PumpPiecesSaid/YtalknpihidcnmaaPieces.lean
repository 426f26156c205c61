/-
  PROVED HERE: for every two integers n, chunk the law PumpPieces returns true: pump.Pieces(10, 4) is 3 and pump.Pieces(n, chunk) is the reference's Pieces(n, chunk).
  CONDITIONS: none (the statement 'PumpPiecesSaid' itself). The frame round the walk was written by the kit's proof-skeleton program.
-/
import Derived.Test.YtalknpihidcnmaaRows
import Derived.WalkKit
import Derived.ProofKit
import Derived.OpenShut
import Derived.Lib.Hide
namespace Go.Proofs.Ytalknpihidcnmaa.pumpPieces
open Go.ChangeShapes Go.WideShapes Go.ChangeAt Go.RowKit
set_option linter.unusedVariables false      -- a walk need not use every 'w<i>' (that an integer argument fits its kind)

theorem own : ownKnob Try.prog.godebug = none := by kernel_rfl

def pcs (n c : Int) : Int := if 0 < n ∧ 1 ≤ c ∧ c ≤ 65536 then (n - 1) / c + 1 else 0

theorem div_up (n c : Int) (h1 : 0 < n) (h2 : 1 ≤ c) : (0 < n % c → n / c + 1 = (n - 1) / c + 1) ∧ (¬ 0 < n % c → n / c = (n - 1) / c + 1) := by
  have e := Int.mul_ediv_add_emod n c
  have m0 := Int.emod_nonneg n (show c ≠ 0 by omega)
  have m1 := Int.emod_lt_of_pos n (show 0 < c by omega)
  constructor
  · intro h
    have : (n - 1) / c = n / c := by
      rw [Int.ediv_eq_iff_of_pos (by omega)]
      generalize n / c = q at *
      rw [Int.mul_comm] at e
      constructor
      · omega
      · omega
    omega
  · intro h
    have : (n - 1) / c = n / c - 1 := by
      rw [Int.ediv_eq_iff_of_pos (by omega)]
      generalize n / c = q at *
      rw [Int.mul_comm] at e
      constructor
      · rw [Int.sub_mul]; omega
      · rw [Int.sub_mul]; omega
    omega

theorem div_bd (n c : Int) (h1 : 0 < n) (h2 : 1 ≤ c) : 0 ≤ n / c ∧ n / c ≤ n := by
  exact ⟨Int.ediv_nonneg (by omega) (by omega), Int.ediv_le_self _ (by omega)⟩

theorem ret_int {k : IntKind} {a b : Int} (h : a = b) : Ending.returned (.int k a) = .returned (.int k b) := by rw [h]

theorem pieces_any (n c : Int) (w : World) (hn : n ≤ 9223372036854775807) :
    Calls Try.prog 4 #[.int .i64 n, .int .i64 c] w fun e w' => e = .returned (.int .i64 (pcs n c)) ∧ w = w' := by
  by_cases h1 : n ≤ 0
  · go_enter Try.func4, Try.ntmps4
    go_wp2
    go_ret
    exact ⟨ret_int (by unfold pcs; rw [if_neg (by omega)]), rfl⟩
  · by_cases h2 : c < 1
    · go_enter Try.func4, Try.ntmps4
      go_wp2
      go_ret
      exact ⟨ret_int (by unfold pcs; rw [if_neg (by omega)]), rfl⟩
    · by_cases h3 : 65536 < c
      · go_enter Try.func4, Try.ntmps4
        go_wp2
        go_ret
        exact ⟨ret_int (by unfold pcs; rw [if_neg (by omega)]), rfl⟩
      · have hd := div_up n c (by omega) (by omega)
        have hb := div_bd n c (by omega) (by omega)
        by_cases h4 : 0 < n % c
        · have hd' := hd.1 h4
          have HD := Lib.hid hd'
          clear hd hd'
          have hb' : n / c + 1 ≤ 9223372036854775807 := by
            by_cases h : c < 2
            · obtain rfl : c = 1 := by omega
              omega
            · have := Int.ediv_lt_self_of_pos_of_ne_one (x := n) (y := c) (by omega) (by omega)
              omega
          go_enter Try.func4, Try.ntmps4
          go_wp2
          go_ret
          exact ⟨ret_int (by unfold pcs; rw [if_pos (by omega), HD.out]), rfl⟩
        · have hd' := hd.2 h4
          have HD := Lib.hid hd'
          clear hd hd'
          go_enter Try.func4, Try.ntmps4
          go_wp2
          go_ret
          exact ⟨ret_int (by unfold pcs; rw [if_pos (by omega), HD.out]), rfl⟩

theorem ref_any (n c : Int) (w : World) (hn : n ≤ 9223372036854775807) :
    Calls Try.prog 5 #[.int .i64 n, .int .i64 c] w fun e w' => e = .returned (.int .i64 (pcs n c)) ∧ w = w' := by
  by_cases h1 : n ≤ 0
  · go_enter Try.func5, Try.ntmps5
    go_wp2
    go_ret
    exact ⟨ret_int (by unfold pcs; rw [if_neg (by omega)]), rfl⟩
  · by_cases h2 : c < 1
    · go_enter Try.func5, Try.ntmps5
      go_wp2
      go_ret
      exact ⟨ret_int (by unfold pcs; rw [if_neg (by omega)]), rfl⟩
    · by_cases h3 : 65536 < c
      · go_enter Try.func5, Try.ntmps5
        go_wp2
        go_ret
        exact ⟨ret_int (by unfold pcs; rw [if_neg (by omega)]), rfl⟩
      · have hb : 0 ≤ (n - 1) / c ∧ (n - 1) / c ≤ n - 1 := ⟨Int.ediv_nonneg (by omega) (by omega), Int.ediv_le_self _ (by omega)⟩
        go_enter Try.func5, Try.ntmps5
        go_wp2
        go_ret
        exact ⟨ret_int (by unfold pcs; rw [if_pos (by omega)]), rfl⟩

theorem int_bd {a : Int} (h : (Lit.int .i64 a).wf = true) : -9223372036854775808 ≤ a ∧ a ≤ 9223372036854775807 := by
  simpa [Lit.wf, IntKind.min, IntKind.max, IntKind.signed, IntKind.bits] using h

/-! ### STEP 1: THE WALK: the Go text returns true. 'Grown w w'': the world has at most new blocks (Derived/RowKit3.lean). Part the cases AHEAD of 'go_enter' where a test parts the walk; take each callee by a contract of your own. -/
theorem walk (a0 : Int) (a1 : Int) (w0 : (Lit.int .i64 a0).wf = true) (w1 : (Lit.int .i64 a1).wf = true) (w : World) :
    Calls Try.prog 3 #[.int .i64 a0, .int .i64 a1] w fun e w' => e = .returned (.bool true) ∧ Grown w w' := by
  have hx := (int_bd w0).2
  go_enter Try.func3, Try.ntmps3
  go_wp2_with fail
  refine (pieces_any _ _ _ (by omega)).mono ?_
  rintro e w' ⟨rfl, rfl⟩
  go_wp2_with fail
  refine (pieces_any _ _ _ hx).mono ?_
  rintro e w' ⟨rfl, rfl⟩
  go_wp2_with fail
  refine (ref_any _ _ _ hx).mono ?_
  rintro e w' ⟨rfl, rfl⟩
  go_wp2_with fail
  go_ret
  exact ⟨rfl, Grown.refl _⟩

/-! ### THE ROW's STEP: WRITTEN OUT: LEAVE IT -/
set_option maxRecDepth 100000 in
theorem lifted (os : Os) (started : os.Started) (H : Type) (enc : TypeId × Value → H) :
    ReturnsInHanded {} Try.checked os 3 .any (Rows.pumpPiecesSpec.pre6 enc Try.prog Try.f3 Rows.pumpPiecesRow.domain false) (Rows.pumpPiecesSpec.post enc Try.prog Try.f3 false true false false) := by
  refine returnsInHanded_of_change (C := Try.checked) own started (by kernel_rfl) Try.func3
    (ChangeSpec.witness6 (enc := enc) (C := Try.checked) false ⟨#[], #[.int .i64 0, .int .i64 0], []⟩ 8 (by kernel_rfl) (by kernel_rfl) (by kernel_rfl) (by kernel_rfl)) ?_
  intro W base args ds gs before hval0 hW hcnd _
  have hval : ∀ (j : Nat) t v, Try.f3.params[j]? = some t → args[j]? = some v → Value.okWide Try.prog W .any base t v := hval0
  have hW' := hW
  obtain ⟨p, q, hA0, hV, rfl, hfz, hnd⟩ := hW
  have hA : DataW.TrodAll enc Try.prog W 0 (fun _ => true) true Try.f3.params.toList args.toList ds p := hA0
  rw [Try.params3] at hA hval
  obtain ⟨v0, vs0, d0, ds0, p0, q0, hargs, rfl, rfl, h0, r0⟩ := trodAll_cons hA
  obtain ⟨v1, vs1, d1, ds1, p1, q1, rfl, rfl, rfl, h1, r1⟩ := trodAll_cons r0
  obtain ⟨rfl, rfl, rfl⟩ := trodAll_nil r1
  obtain rfl : args = #[v0, v1] := by cases args; simp_all
  obtain ⟨rfl, rfl⟩ := trodVars_none hV
  obtain ⟨a0, rfl, rfl, rfl, w0⟩ := open_int Try.underlying3 (hval 0 3 v0 rfl rfl) h0
  obtain ⟨a1, rfl, rfl, rfl, w1⟩ := open_int Try.underlying3 (hval 1 3 v1 rfl rfl) h1
  clear hA0 hval0
  simp only [List.append_nil] at hW'
  refine (walk a0 a1 w0 w1 W).mono fun e W' ⟨he, hg⟩ => ?_
  subst he
  exact ⟨_, rfl, post_of_same (pa := []) (pv := []) hW' (fun _ _ _ => (trodAll_cons_mk (shut_bool Try.underlying4 _) trodAll_mk0)) (fun sp _ => (trodAll_cons_mk (shut_int Try.underlying3 w0) (trodAll_cons_mk (shut_int Try.underlying3 w1) trodAll_mk0))) (fun _ _ => rfl) rfl
    (hg.frame _) hg.2.1 (ok_one (by kernel_rfl) rfl (okWide_bool_mk Try.underlying4 _))⟩

theorem over : Rows.pumpPiecesRow.holds Try.pinned (OpenSpec.ofChange Rows.pumpPiecesSpec) :=
  OpenClaim.holds_of_wide 3 Try.f3 rfl rfl rfl rfl rfl rfl rfl ⟨rfl, rfl, rfl, rfl, rfl⟩ rfl rfl rfl rfl rfl (by kernel_rfl) Try.func3 (by kernel_rfl)
    (of_decide_eq_true (by kernel_rfl)) (by unfold Func.isWrapper; first | (rw [if_pos (by decide +kernel)]; kernel_rfl) | (rw [if_neg (by decide +kernel)]; exact ⟨rfl, rfl⟩))
    (fun os started H enc _ => lifted os started H enc)

/-- ████ THE STATEMENT ████ -/
theorem proved : Rows.PumpPiecesSaid :=
  over
end Go.Proofs.Ytalknpihidcnmaa.pumpPieces
