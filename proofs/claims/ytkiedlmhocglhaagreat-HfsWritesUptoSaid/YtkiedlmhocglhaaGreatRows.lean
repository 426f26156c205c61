/-
  No cell of these rows narrows 'for every input' (looked for: loops, veiled, ifaces, maps, wideKeys, modest, calm, conditions, laid).
  DERIVED. THE GIVEN ROWS OF THIS SEAT. 4 by the template 'for every input the law returns true; each argument reads behind the call as it read before'; 0 by the template 'total and deterministic' (their statements: YtkiedlmhocglhaaGreatTotals.lean).
  GIVEN WITH THE SEED: the statements are not yours to turn. If you find one false, say at which input.
  Laid BY PROGRAM, IN A SANDBOX (cutbox-rows.mjs): the forced cells as the released guide's own fill.sh prints them over the translation 751ac227ddcb1d4d… (all of the seat's roots in one cut). By AI agents, Wed Nov 11 2026. No macro, syntax, notation, axiom, sorry.
-/
import Derived.Test.YtkiedlmhocglhaaGreatChecked
import GoSem.Claim
import GoSem.ClaimJoined
import GoSem.ClaimMapViews
import Derived.JoinedTies
import Derived.KernelRfl
namespace Go.Proofs.YtkiedlmhocglhaaGreat
/- THE CELL 'sum', in the pinned program and in every row, IS THE sha256 OF THE DUMP (.gsa) THAT YtkiedlmhocglhaaGreatProg.lean LOADS. Nothing in Lean hashes anything: it is a label: what it is worth is what the hold of that sum in a sandbox is worth. -/
noncomputable def Tryz.pinned : Pinned := { name := "ytkiedlmhocglhaagreat", sum := "751ac227ddcb1d4d7c21f11e9e3aadb68d5e417022ade75dfc0658cf95ecf1cc", checked := Tryz.checked }
namespace Rows
def none {H : Type} : Left H := { results := [], args := [] }

/-- 'valiselaw17.HfsWrites': WHATEVER THE INPUT: true; the input reads as it did. -/
def hfsWritesSpec : ChangeSpec := { name := "hfsWrites", fn := fun _ => fun
  | [d1, d2, d3] => { results := [.lit (.bool true)], args := [d1, d2, d3] }
  | _ => none }
def hfsWritesRow : OpenClaim := { program := "ytkiedlmhocglhaagreat", sum := "751ac227ddcb1d4d7c21f11e9e3aadb68d5e417022ade75dfc0658cf95ecf1cc", func := "valise/valiselaw17.HfsWrites", spec := "hfsWrites", inPlace := ["internal/bytealg.IndexByteString", "internal/bytealg.IndexString"], unfollowed := true, recurses := true, named := ["internal/bytealg.MaxLen"], apart := false }
def HfsWritesSaid : Prop := hfsWritesRow.holds Tryz.pinned (OpenSpec.ofChange hfsWritesSpec)

/-- ITS FALSE NEIGHBOUR: 'it returns false'. Refute it at one input. -/
def hfsWritesWrong : ChangeSpec := { name := "hfsWrites", fn := fun _ => fun
  | [d1, d2, d3] => { results := [.lit (.bool false)], args := [d1, d2, d3] }
  | _ => none }
def HfsWritesWrongFalsely : Prop := hfsWritesRow.holds Tryz.pinned (OpenSpec.ofChange hfsWritesWrong)

/-- 'valiselaw17.HfsNews': WHATEVER THE INPUT: true; the input reads as it did. -/
def hfsNewsSpec : ChangeSpec := { name := "hfsNews", fn := fun _ => fun
  | [d] => { results := [.lit (.bool true)], args := [d] }
  | _ => none }
def hfsNewsRow : OpenClaim := { program := "ytkiedlmhocglhaagreat", sum := "751ac227ddcb1d4d7c21f11e9e3aadb68d5e417022ade75dfc0658cf95ecf1cc", func := "valise/valiselaw17.HfsNews", spec := "hfsNews", inPlace := ["internal/bytealg.IndexByteString", "internal/bytealg.IndexString"], unfollowed := true, recurses := true, named := ["internal/bytealg.MaxLen"], apart := false }
def HfsNewsSaid : Prop := hfsNewsRow.holds Tryz.pinned (OpenSpec.ofChange hfsNewsSpec)

/-- ITS FALSE NEIGHBOUR: 'it returns false'. Refute it at one input. -/
def hfsNewsWrong : ChangeSpec := { name := "hfsNews", fn := fun _ => fun
  | [d] => { results := [.lit (.bool false)], args := [d] }
  | _ => none }
def HfsNewsWrongFalsely : Prop := hfsNewsRow.holds Tryz.pinned (OpenSpec.ofChange hfsNewsWrong)

/-- 'valiselaw17.HfsMemory': WHATEVER THE INPUT: true; the input reads as it did. -/
def hfsMemorySpec : ChangeSpec := { name := "hfsMemory", fn := fun _ => fun
  | [d1, d2, d3] => { results := [.lit (.bool true)], args := [d1, d2, d3] }
  | _ => none }
def hfsMemoryRow : OpenClaim := { program := "ytkiedlmhocglhaagreat", sum := "751ac227ddcb1d4d7c21f11e9e3aadb68d5e417022ade75dfc0658cf95ecf1cc", func := "valise/valiselaw17.HfsMemory", spec := "hfsMemory", inPlace := ["internal/bytealg.IndexByteString", "internal/bytealg.IndexString"], unfollowed := true, recurses := true, named := ["internal/bytealg.MaxLen"], apart := false }
def HfsMemorySaid : Prop := hfsMemoryRow.holds Tryz.pinned (OpenSpec.ofChange hfsMemorySpec)

/-- ITS FALSE NEIGHBOUR: 'it returns false'. Refute it at one input. -/
def hfsMemoryWrong : ChangeSpec := { name := "hfsMemory", fn := fun _ => fun
  | [d1, d2, d3] => { results := [.lit (.bool false)], args := [d1, d2, d3] }
  | _ => none }
def HfsMemoryWrongFalsely : Prop := hfsMemoryRow.holds Tryz.pinned (OpenSpec.ofChange hfsMemoryWrong)

/-- 'valiselaw17.HfsCalls': WHATEVER THE INPUT: true; the input reads as it did. -/
def hfsCallsSpec : ChangeSpec := { name := "hfsCalls", fn := fun _ => fun
  | [d1, d2] => { results := [.lit (.bool true)], args := [d1, d2] }
  | _ => none }
def hfsCallsRow : OpenClaim := { program := "ytkiedlmhocglhaagreat", sum := "751ac227ddcb1d4d7c21f11e9e3aadb68d5e417022ade75dfc0658cf95ecf1cc", func := "valise/valiselaw17.HfsCalls", spec := "hfsCalls", inPlace := ["internal/bytealg.IndexByteString", "internal/bytealg.IndexString"], unfollowed := true, recurses := true, named := ["internal/bytealg.MaxLen"], apart := false }
def HfsCallsSaid : Prop := hfsCallsRow.holds Tryz.pinned (OpenSpec.ofChange hfsCallsSpec)

/-- ITS FALSE NEIGHBOUR: 'it returns false'. Refute it at one input. -/
def hfsCallsWrong : ChangeSpec := { name := "hfsCalls", fn := fun _ => fun
  | [d1, d2] => { results := [.lit (.bool false)], args := [d1, d2] }
  | _ => none }
def HfsCallsWrongFalsely : Prop := hfsCallsRow.holds Tryz.pinned (OpenSpec.ofChange hfsCallsWrong)

/- THE SECOND FORM. 'bulk': how many values and letters a reading holds, each counted each time it is reached (what is shared counts as often as it is met; a slice's spare places count too). A statement '..UptoSaid' is the law's where the arguments, and the package variables that the reading takes, are together of bulk at most 1048576: NARROWER than '..Said'. Prove '..Said' where nothing that the law and all that it calls make is longer than what came in: it says more and counts as full. Else prove '..UptoSaid'. A law counts once. -/
mutual
def uptoBulk {H : Type} : DataW H → Nat
  | .lit (.string bytes) => bytes.length + 1
  | .lit _ => 1
  | .nil => 1
  | .ptr d => uptoBulk d + 1
  | .slice elems spare => uptoBulkAll elems + uptoBulkAll spare + 1
  | .agg parts => uptoBulkAll parts + 1
  | .iface _ d => uptoBulk d + 1
  | .map entries => uptoBulkEntries entries + 1
  | .held _ => 1
def uptoBulkAll {H : Type} : List (DataW H) → Nat
  | [] => 0
  | d :: r => uptoBulk d + uptoBulkAll r
def uptoBulkEntries {H : Type} : List (Lit × DataW H) → Nat
  | [] => 0
  | x :: r => uptoBulkEntry x + uptoBulkEntries r
def uptoBulkEntry {H : Type} : Lit × DataW H → Nat
  | (.string bytes, d) => bytes.length + uptoBulk d + 1
  | (_, d) => uptoBulk d + 1
 end
def uptoSmall : (H : Type) → List (DataW H) → Bool := fun _ ds => decide (uptoBulkAll ds ≤ 1048576)
def OpenSpec.upto (s : _root_.Go.ChangeSpec) : _root_.Go.OpenSpec := { _root_.Go.OpenSpec.ofChange s with cond := some uptoSmall }

/-- 'valiselaw17.HfsWrites', WHERE WHAT IT READS IS OF BULK AT MOST 1048576: true; the input reads as it did. -/
def hfsWritesUptoRow : OpenClaim := { program := "ytkiedlmhocglhaagreat", sum := "751ac227ddcb1d4d7c21f11e9e3aadb68d5e417022ade75dfc0658cf95ecf1cc", func := "valise/valiselaw17.HfsWrites", spec := "hfsWrites", inPlace := ["internal/bytealg.IndexByteString", "internal/bytealg.IndexString"], unfollowed := true, recurses := true, named := ["internal/bytealg.MaxLen"], apart := false, narrowed := true }
def HfsWritesUptoSaid : Prop := hfsWritesUptoRow.holds Tryz.pinned (OpenSpec.upto hfsWritesSpec)

/-- 'valiselaw17.HfsNews', WHERE WHAT IT READS IS OF BULK AT MOST 1048576: true; the input reads as it did. -/
def hfsNewsUptoRow : OpenClaim := { program := "ytkiedlmhocglhaagreat", sum := "751ac227ddcb1d4d7c21f11e9e3aadb68d5e417022ade75dfc0658cf95ecf1cc", func := "valise/valiselaw17.HfsNews", spec := "hfsNews", inPlace := ["internal/bytealg.IndexByteString", "internal/bytealg.IndexString"], unfollowed := true, recurses := true, named := ["internal/bytealg.MaxLen"], apart := false, narrowed := true }
def HfsNewsUptoSaid : Prop := hfsNewsUptoRow.holds Tryz.pinned (OpenSpec.upto hfsNewsSpec)

/-- 'valiselaw17.HfsMemory', WHERE WHAT IT READS IS OF BULK AT MOST 1048576: true; the input reads as it did. -/
def hfsMemoryUptoRow : OpenClaim := { program := "ytkiedlmhocglhaagreat", sum := "751ac227ddcb1d4d7c21f11e9e3aadb68d5e417022ade75dfc0658cf95ecf1cc", func := "valise/valiselaw17.HfsMemory", spec := "hfsMemory", inPlace := ["internal/bytealg.IndexByteString", "internal/bytealg.IndexString"], unfollowed := true, recurses := true, named := ["internal/bytealg.MaxLen"], apart := false, narrowed := true }
def HfsMemoryUptoSaid : Prop := hfsMemoryUptoRow.holds Tryz.pinned (OpenSpec.upto hfsMemorySpec)

/-- 'valiselaw17.HfsCalls', WHERE WHAT IT READS IS OF BULK AT MOST 1048576: true; the input reads as it did. -/
def hfsCallsUptoRow : OpenClaim := { program := "ytkiedlmhocglhaagreat", sum := "751ac227ddcb1d4d7c21f11e9e3aadb68d5e417022ade75dfc0658cf95ecf1cc", func := "valise/valiselaw17.HfsCalls", spec := "hfsCalls", inPlace := ["internal/bytealg.IndexByteString", "internal/bytealg.IndexString"], unfollowed := true, recurses := true, named := ["internal/bytealg.MaxLen"], apart := false, narrowed := true }
def HfsCallsUptoSaid : Prop := hfsCallsUptoRow.holds Tryz.pinned (OpenSpec.upto hfsCallsSpec)

end Rows
end Go.Proofs.YtkiedlmhocglhaaGreat
