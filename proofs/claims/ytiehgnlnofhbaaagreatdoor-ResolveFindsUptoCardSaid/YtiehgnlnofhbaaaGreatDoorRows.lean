/-
  NARROWER THAN 'FOR EVERY INPUT', by the rows' own cells (each row's printed sentence says how): ResolveHolds: laid · ResolveUnder: laid · ResolveFinds: laid · ResolveErrors: laid.
  DERIVED. THE GIVEN ROWS OF THIS SEAT. 4 by the template 'for every input the law returns true; each argument reads behind the call as it read before'; 0 by the template 'total and deterministic' (their statements: YtiehgnlnofhbaaaGreatDoorTotals.lean).
  GIVEN WITH THE SEED: the statements are not yours to turn. If you find one false, say at which input.
  Laid BY PROGRAM, IN A SANDBOX (cutbox-rows.mjs): the forced cells as the released guide's own fill.sh prints them over the translation 232118545217248a… (all of the seat's roots in one cut). By AI agents, Wed Nov 11 2026. No macro, syntax, notation, axiom, sorry.
-/
import Derived.Test.YtiehgnlnofhbaaaGreatDoorChecked
import GoSem.Claim
import GoSem.ClaimJoined
import GoSem.ClaimMapViews
import Derived.JoinedTies
import Derived.KernelRfl
namespace Go.Proofs.YtiehgnlnofhbaaaGreatDoor
/- THE CELL 'sum', in the pinned program and in every row, IS THE sha256 OF THE DUMP (.gsa) THAT YtiehgnlnofhbaaaGreatDoorProg.lean LOADS. Nothing in Lean hashes anything: it is a label: what it is worth is what the hold of that sum in a sandbox is worth. -/
noncomputable def Tryz.pinned : Pinned := { name := "ytiehgnlnofhbaaagreatdoor", sum := "232118545217248a7eac07340ec3493bf89e00cd7c1398d39181558157b82eba", checked := Tryz.checked }
namespace Rows
def none {H : Type} : Left H := { results := [], args := [] }

/- WHAT THE LISTED PACKAGE-LEVEL VARIABLES READ AS WHEN THE CALL BEGINS. Each datum BY PROGRAM (the guide's laid-datum.mjs) off the statement by which the dump's own 'gosem.cut.vars' lays the variable. In a bare row this is a premise. The card (YtiehgnlnofhbaaaGreatDoorCards.lean) ties it to the program's text. -/
def laid_errors_errorType {H : Type} : DataW H := .iface "internal/reflectlite.rtype" (.agg [.ptr (.lit (.string [101, 114, 114, 111, 114]))])

/-- 'valiselaw19.ResolveHolds': WHATEVER THE INPUT: true; the input reads as it did. -/
def resolveHoldsSpec : ChangeSpec := { name := "resolveHolds", fn := fun _ => fun
  | [d1, d2] => { results := [.lit (.bool true)], args := [d1, d2] }
  | _ => none }
def resolveHoldsRow : OpenClaim := { program := "ytiehgnlnofhbaaagreatdoor", sum := "232118545217248a7eac07340ec3493bf89e00cd7c1398d39181558157b82eba", func := "valise/valiselaw19.ResolveHolds", spec := "resolveHolds", inPlace := ["internal/bytealg.IndexByteString", "internal/bytealg.IndexString", "internal/reflectlite.TypeOf", "internal/reflectlite.ValueOf", "(internal/reflectlite.Value).Type", "(internal/reflectlite.Value).IsNil", "(internal/reflectlite.Value).Elem", "(internal/reflectlite.Value).Set"], unfollowed := true, recurses := true, named := ["errors.errorType", "internal/bytealg.MaxLen"], apart := false, laid := [("errors.errorType", laid_errors_errorType)] }
def ResolveHoldsSaid : Prop := resolveHoldsRow.holds Tryz.pinned (OpenSpec.ofChange resolveHoldsSpec)

/-- ITS FALSE NEIGHBOUR: 'it returns false'. Refute it at one input. -/
def resolveHoldsWrong : ChangeSpec := { name := "resolveHolds", fn := fun _ => fun
  | [d1, d2] => { results := [.lit (.bool false)], args := [d1, d2] }
  | _ => none }
def ResolveHoldsWrongFalsely : Prop := resolveHoldsRow.holds Tryz.pinned (OpenSpec.ofChange resolveHoldsWrong)

/-- 'valiselaw19.ResolveUnder': WHATEVER THE INPUT: true; the input reads as it did. -/
def resolveUnderSpec : ChangeSpec := { name := "resolveUnder", fn := fun _ => fun
  | [d1, d2] => { results := [.lit (.bool true)], args := [d1, d2] }
  | _ => none }
def resolveUnderRow : OpenClaim := { program := "ytiehgnlnofhbaaagreatdoor", sum := "232118545217248a7eac07340ec3493bf89e00cd7c1398d39181558157b82eba", func := "valise/valiselaw19.ResolveUnder", spec := "resolveUnder", inPlace := ["internal/bytealg.IndexByteString", "internal/bytealg.IndexString", "internal/reflectlite.TypeOf", "internal/reflectlite.ValueOf", "(internal/reflectlite.Value).Type", "(internal/reflectlite.Value).IsNil", "(internal/reflectlite.Value).Elem", "(internal/reflectlite.Value).Set"], unfollowed := true, recurses := true, named := ["errors.errorType", "internal/bytealg.MaxLen"], apart := false, laid := [("errors.errorType", laid_errors_errorType)] }
def ResolveUnderSaid : Prop := resolveUnderRow.holds Tryz.pinned (OpenSpec.ofChange resolveUnderSpec)

/-- ITS FALSE NEIGHBOUR: 'it returns false'. Refute it at one input. -/
def resolveUnderWrong : ChangeSpec := { name := "resolveUnder", fn := fun _ => fun
  | [d1, d2] => { results := [.lit (.bool false)], args := [d1, d2] }
  | _ => none }
def ResolveUnderWrongFalsely : Prop := resolveUnderRow.holds Tryz.pinned (OpenSpec.ofChange resolveUnderWrong)

/-- 'valiselaw19.ResolveFinds': WHATEVER THE INPUT: true; the input reads as it did. -/
def resolveFindsSpec : ChangeSpec := { name := "resolveFinds", fn := fun _ => fun
  | [d1, d2] => { results := [.lit (.bool true)], args := [d1, d2] }
  | _ => none }
def resolveFindsRow : OpenClaim := { program := "ytiehgnlnofhbaaagreatdoor", sum := "232118545217248a7eac07340ec3493bf89e00cd7c1398d39181558157b82eba", func := "valise/valiselaw19.ResolveFinds", spec := "resolveFinds", inPlace := ["internal/bytealg.IndexByteString", "internal/bytealg.IndexString", "internal/reflectlite.TypeOf", "internal/reflectlite.ValueOf", "(internal/reflectlite.Value).Type", "(internal/reflectlite.Value).IsNil", "(internal/reflectlite.Value).Elem", "(internal/reflectlite.Value).Set", "internal/bytealg.abigen_runtime_cmpstring"], unfollowed := true, recurses := true, named := ["errors.errorType", "internal/bytealg.MaxLen"], apart := false, laid := [("errors.errorType", laid_errors_errorType)] }
def ResolveFindsSaid : Prop := resolveFindsRow.holds Tryz.pinned (OpenSpec.ofChange resolveFindsSpec)

/-- ITS FALSE NEIGHBOUR: 'it returns false'. Refute it at one input. -/
def resolveFindsWrong : ChangeSpec := { name := "resolveFinds", fn := fun _ => fun
  | [d1, d2] => { results := [.lit (.bool false)], args := [d1, d2] }
  | _ => none }
def ResolveFindsWrongFalsely : Prop := resolveFindsRow.holds Tryz.pinned (OpenSpec.ofChange resolveFindsWrong)

/-- 'valiselaw19.ResolveErrors': WHATEVER THE INPUT: true; the input reads as it did. -/
def resolveErrorsSpec : ChangeSpec := { name := "resolveErrors", fn := fun _ => fun
  | [d1, d2, d3] => { results := [.lit (.bool true)], args := [d1, d2, d3] }
  | _ => none }
def resolveErrorsRow : OpenClaim := { program := "ytiehgnlnofhbaaagreatdoor", sum := "232118545217248a7eac07340ec3493bf89e00cd7c1398d39181558157b82eba", func := "valise/valiselaw19.ResolveErrors", spec := "resolveErrors", inPlace := ["internal/bytealg.IndexByteString", "internal/bytealg.IndexString", "internal/reflectlite.TypeOf", "internal/reflectlite.ValueOf", "(internal/reflectlite.Value).Type", "(internal/reflectlite.Value).IsNil", "(internal/reflectlite.Value).Elem", "(internal/reflectlite.Value).Set"], unfollowed := true, recurses := true, named := ["errors.errorType", "internal/bytealg.MaxLen"], apart := false, laid := [("errors.errorType", laid_errors_errorType)] }
def ResolveErrorsSaid : Prop := resolveErrorsRow.holds Tryz.pinned (OpenSpec.ofChange resolveErrorsSpec)

/-- ITS FALSE NEIGHBOUR: 'it returns false'. Refute it at one input. -/
def resolveErrorsWrong : ChangeSpec := { name := "resolveErrors", fn := fun _ => fun
  | [d1, d2, d3] => { results := [.lit (.bool false)], args := [d1, d2, d3] }
  | _ => none }
def ResolveErrorsWrongFalsely : Prop := resolveErrorsRow.holds Tryz.pinned (OpenSpec.ofChange resolveErrorsWrong)

/- THE SECOND FORM. 'bulk': how many values and letters a reading holds, each counted each time it is reached (what is shared counts as often as it is met; a slice's spare places count too). A statement '..UptoSaid' is the law's where the arguments, and the package variables that the reading takes, are together of bulk at most 1048576: NARROWER than '..Said'. Prove '..Said' where nothing that the law and all that it calls make is longer than what came in: it says more and counts as full. Else prove '..UptoSaid'. A law counts once. -/
mutual
def uptoBulk {H : Type} : DataW H → Nat
  | .lit (.string bytes) => bytes.length + 1
  | .lit _ => 1
  | .nil => 1
  | .ptr d => uptoBulk d + 1
  | .slice elems spare => uptoBulkAll elems + uptoBulkAll spare + 1
  | .agg parts => uptoBulkAll parts + 1
  | .iface _ d => uptoBulk d + 1
  | .map entries => uptoBulkEntries entries + 1
  | .held _ => 1
def uptoBulkAll {H : Type} : List (DataW H) → Nat
  | [] => 0
  | d :: r => uptoBulk d + uptoBulkAll r
def uptoBulkEntries {H : Type} : List (Lit × DataW H) → Nat
  | [] => 0
  | x :: r => uptoBulkEntry x + uptoBulkEntries r
def uptoBulkEntry {H : Type} : Lit × DataW H → Nat
  | (.string bytes, d) => bytes.length + uptoBulk d + 1
  | (_, d) => uptoBulk d + 1
 end
def uptoSmall : (H : Type) → List (DataW H) → Bool := fun _ ds => decide (uptoBulkAll ds ≤ 1048576)
def OpenSpec.upto (s : _root_.Go.ChangeSpec) : _root_.Go.OpenSpec := { _root_.Go.OpenSpec.ofChange s with cond := some uptoSmall }

/-- 'valiselaw19.ResolveHolds', WHERE WHAT IT READS IS OF BULK AT MOST 1048576: true; the input reads as it did. -/
def resolveHoldsUptoRow : OpenClaim := { program := "ytiehgnlnofhbaaagreatdoor", sum := "232118545217248a7eac07340ec3493bf89e00cd7c1398d39181558157b82eba", func := "valise/valiselaw19.ResolveHolds", spec := "resolveHolds", inPlace := ["internal/bytealg.IndexByteString", "internal/bytealg.IndexString", "internal/reflectlite.TypeOf", "internal/reflectlite.ValueOf", "(internal/reflectlite.Value).Type", "(internal/reflectlite.Value).IsNil", "(internal/reflectlite.Value).Elem", "(internal/reflectlite.Value).Set"], unfollowed := true, recurses := true, named := ["errors.errorType", "internal/bytealg.MaxLen"], apart := false, laid := [("errors.errorType", laid_errors_errorType)], narrowed := true }
def ResolveHoldsUptoSaid : Prop := resolveHoldsUptoRow.holds Tryz.pinned (OpenSpec.upto resolveHoldsSpec)

/-- 'valiselaw19.ResolveUnder', WHERE WHAT IT READS IS OF BULK AT MOST 1048576: true; the input reads as it did. -/
def resolveUnderUptoRow : OpenClaim := { program := "ytiehgnlnofhbaaagreatdoor", sum := "232118545217248a7eac07340ec3493bf89e00cd7c1398d39181558157b82eba", func := "valise/valiselaw19.ResolveUnder", spec := "resolveUnder", inPlace := ["internal/bytealg.IndexByteString", "internal/bytealg.IndexString", "internal/reflectlite.TypeOf", "internal/reflectlite.ValueOf", "(internal/reflectlite.Value).Type", "(internal/reflectlite.Value).IsNil", "(internal/reflectlite.Value).Elem", "(internal/reflectlite.Value).Set"], unfollowed := true, recurses := true, named := ["errors.errorType", "internal/bytealg.MaxLen"], apart := false, laid := [("errors.errorType", laid_errors_errorType)], narrowed := true }
def ResolveUnderUptoSaid : Prop := resolveUnderUptoRow.holds Tryz.pinned (OpenSpec.upto resolveUnderSpec)

/-- 'valiselaw19.ResolveFinds', WHERE WHAT IT READS IS OF BULK AT MOST 1048576: true; the input reads as it did. -/
def resolveFindsUptoRow : OpenClaim := { program := "ytiehgnlnofhbaaagreatdoor", sum := "232118545217248a7eac07340ec3493bf89e00cd7c1398d39181558157b82eba", func := "valise/valiselaw19.ResolveFinds", spec := "resolveFinds", inPlace := ["internal/bytealg.IndexByteString", "internal/bytealg.IndexString", "internal/reflectlite.TypeOf", "internal/reflectlite.ValueOf", "(internal/reflectlite.Value).Type", "(internal/reflectlite.Value).IsNil", "(internal/reflectlite.Value).Elem", "(internal/reflectlite.Value).Set", "internal/bytealg.abigen_runtime_cmpstring"], unfollowed := true, recurses := true, named := ["errors.errorType", "internal/bytealg.MaxLen"], apart := false, laid := [("errors.errorType", laid_errors_errorType)], narrowed := true }
def ResolveFindsUptoSaid : Prop := resolveFindsUptoRow.holds Tryz.pinned (OpenSpec.upto resolveFindsSpec)

/-- 'valiselaw19.ResolveErrors', WHERE WHAT IT READS IS OF BULK AT MOST 1048576: true; the input reads as it did. -/
def resolveErrorsUptoRow : OpenClaim := { program := "ytiehgnlnofhbaaagreatdoor", sum := "232118545217248a7eac07340ec3493bf89e00cd7c1398d39181558157b82eba", func := "valise/valiselaw19.ResolveErrors", spec := "resolveErrors", inPlace := ["internal/bytealg.IndexByteString", "internal/bytealg.IndexString", "internal/reflectlite.TypeOf", "internal/reflectlite.ValueOf", "(internal/reflectlite.Value).Type", "(internal/reflectlite.Value).IsNil", "(internal/reflectlite.Value).Elem", "(internal/reflectlite.Value).Set"], unfollowed := true, recurses := true, named := ["errors.errorType", "internal/bytealg.MaxLen"], apart := false, laid := [("errors.errorType", laid_errors_errorType)], narrowed := true }
def ResolveErrorsUptoSaid : Prop := resolveErrorsUptoRow.holds Tryz.pinned (OpenSpec.upto resolveErrorsSpec)

end Rows
end Go.Proofs.YtiehgnlnofhbaaaGreatDoor
