/-
  No cell of these rows narrows 'for every input' (looked for: loops, veiled, ifaces, maps, wideKeys, modest, calm, conditions, laid).
  DERIVED. THE GIVEN ROWS OF THIS SEAT. 3 by the template 'for every input the law returns true; each argument reads behind the call as it read before'; 0 by the template 'total and deterministic' (their statements: YtbnfiigafobejaaGreatTotals.lean).
  GIVEN WITH THE SEED: the statements are not yours to turn. If you find one false, say at which input.
  Laid BY PROGRAM, IN A SANDBOX (cutbox-rows.mjs): the forced cells as the released guide's own fill.sh prints them over the translation 6ba2c80fc8e677a1… (all of the seat's roots in one cut). By AI agents, Wed Nov 11 2026. No macro, syntax, notation, axiom, sorry.
-/
import Derived.Test.YtbnfiigafobejaaGreatChecked
import GoSem.Claim
import GoSem.ClaimJoined
import GoSem.ClaimMapViews
import Derived.JoinedTies
import Derived.KernelRfl
namespace Go.Proofs.YtbnfiigafobejaaGreat
/- THE CELL 'sum', in the pinned program and in every row, IS THE sha256 OF THE DUMP (.gsa) THAT YtbnfiigafobejaaGreatProg.lean LOADS. Nothing in Lean hashes anything: it is a label: what it is worth is what the hold of that sum in a sandbox is worth. -/
noncomputable def Tryz.pinned : Pinned := { name := "ytbnfiigafobejaagreat", sum := "6ba2c80fc8e677a19e1685e827419e676ab43c9b9f557d875c62723ab60cb6dd", checked := Tryz.checked }
namespace Rows
def none {H : Type} : Left H := { results := [], args := [] }

/-- 'valiselaw18.WorldDoes': WHATEVER THE INPUT: true; the input reads as it did. -/
def worldDoesSpec : ChangeSpec := { name := "worldDoes", fn := fun _ => fun
  | [d1, d2] => { results := [.lit (.bool true)], args := [d1, d2] }
  | _ => none }
def worldDoesRow : OpenClaim := { program := "ytbnfiigafobejaagreat", sum := "6ba2c80fc8e677a19e1685e827419e676ab43c9b9f557d875c62723ab60cb6dd", func := "valise/valiselaw18.WorldDoes", spec := "worldDoes", inPlace := ["internal/bytealg.IndexByteString", "internal/bytealg.IndexString"], unfollowed := true, recurses := true, named := ["internal/bytealg.MaxLen"], apart := false }
def WorldDoesSaid : Prop := worldDoesRow.holds Tryz.pinned (OpenSpec.ofChange worldDoesSpec)

/-- ITS FALSE NEIGHBOUR: 'it returns false'. Refute it at one input. -/
def worldDoesWrong : ChangeSpec := { name := "worldDoes", fn := fun _ => fun
  | [d1, d2] => { results := [.lit (.bool false)], args := [d1, d2] }
  | _ => none }
def WorldDoesWrongFalsely : Prop := worldDoesRow.holds Tryz.pinned (OpenSpec.ofChange worldDoesWrong)

/-- 'valiselaw18.WorldMemory': WHATEVER THE INPUT: true; the input reads as it did. -/
def worldMemorySpec : ChangeSpec := { name := "worldMemory", fn := fun _ => fun
  | [d1, d2, d3] => { results := [.lit (.bool true)], args := [d1, d2, d3] }
  | _ => none }
def worldMemoryRow : OpenClaim := { program := "ytbnfiigafobejaagreat", sum := "6ba2c80fc8e677a19e1685e827419e676ab43c9b9f557d875c62723ab60cb6dd", func := "valise/valiselaw18.WorldMemory", spec := "worldMemory", inPlace := ["internal/bytealg.IndexByteString", "internal/bytealg.IndexString"], unfollowed := true, recurses := true, named := ["internal/bytealg.MaxLen"], apart := false }
def WorldMemorySaid : Prop := worldMemoryRow.holds Tryz.pinned (OpenSpec.ofChange worldMemorySpec)

/-- ITS FALSE NEIGHBOUR: 'it returns false'. Refute it at one input. -/
def worldMemoryWrong : ChangeSpec := { name := "worldMemory", fn := fun _ => fun
  | [d1, d2, d3] => { results := [.lit (.bool false)], args := [d1, d2, d3] }
  | _ => none }
def WorldMemoryWrongFalsely : Prop := worldMemoryRow.holds Tryz.pinned (OpenSpec.ofChange worldMemoryWrong)

/-- 'valiselaw18.WorldClients': WHATEVER THE INPUT: true; the input reads as it did. -/
def worldClientsSpec : ChangeSpec := { name := "worldClients", fn := fun _ => fun
  | [d1, d2] => { results := [.lit (.bool true)], args := [d1, d2] }
  | _ => none }
def worldClientsRow : OpenClaim := { program := "ytbnfiigafobejaagreat", sum := "6ba2c80fc8e677a19e1685e827419e676ab43c9b9f557d875c62723ab60cb6dd", func := "valise/valiselaw18.WorldClients", spec := "worldClients", inPlace := ["internal/bytealg.IndexByteString", "internal/bytealg.IndexString"], unfollowed := true, recurses := true, named := ["internal/bytealg.MaxLen"], apart := false }
def WorldClientsSaid : Prop := worldClientsRow.holds Tryz.pinned (OpenSpec.ofChange worldClientsSpec)

/-- ITS FALSE NEIGHBOUR: 'it returns false'. Refute it at one input. -/
def worldClientsWrong : ChangeSpec := { name := "worldClients", fn := fun _ => fun
  | [d1, d2] => { results := [.lit (.bool false)], args := [d1, d2] }
  | _ => none }
def WorldClientsWrongFalsely : Prop := worldClientsRow.holds Tryz.pinned (OpenSpec.ofChange worldClientsWrong)

/- THE SECOND FORM. 'bulk': how many values and letters a reading holds, each counted each time it is reached (what is shared counts as often as it is met; a slice's spare places count too). A statement '..UptoSaid' is the law's where the arguments, and the package variables that the reading takes, are together of bulk at most 1048576: NARROWER than '..Said'. Prove '..Said' where nothing that the law and all that it calls make is longer than what came in: it says more and counts as full. Else prove '..UptoSaid'. A law counts once. -/
mutual
def uptoBulk {H : Type} : DataW H → Nat
  | .lit (.string bytes) => bytes.length + 1
  | .lit _ => 1
  | .nil => 1
  | .ptr d => uptoBulk d + 1
  | .slice elems spare => uptoBulkAll elems + uptoBulkAll spare + 1
  | .agg parts => uptoBulkAll parts + 1
  | .iface _ d => uptoBulk d + 1
  | .map entries => uptoBulkEntries entries + 1
  | .held _ => 1
def uptoBulkAll {H : Type} : List (DataW H) → Nat
  | [] => 0
  | d :: r => uptoBulk d + uptoBulkAll r
def uptoBulkEntries {H : Type} : List (Lit × DataW H) → Nat
  | [] => 0
  | x :: r => uptoBulkEntry x + uptoBulkEntries r
def uptoBulkEntry {H : Type} : Lit × DataW H → Nat
  | (.string bytes, d) => bytes.length + uptoBulk d + 1
  | (_, d) => uptoBulk d + 1
 end
def uptoSmall : (H : Type) → List (DataW H) → Bool := fun _ ds => decide (uptoBulkAll ds ≤ 1048576)
def OpenSpec.upto (s : _root_.Go.ChangeSpec) : _root_.Go.OpenSpec := { _root_.Go.OpenSpec.ofChange s with cond := some uptoSmall }

/-- 'valiselaw18.WorldDoes', WHERE WHAT IT READS IS OF BULK AT MOST 1048576: true; the input reads as it did. -/
def worldDoesUptoRow : OpenClaim := { program := "ytbnfiigafobejaagreat", sum := "6ba2c80fc8e677a19e1685e827419e676ab43c9b9f557d875c62723ab60cb6dd", func := "valise/valiselaw18.WorldDoes", spec := "worldDoes", inPlace := ["internal/bytealg.IndexByteString", "internal/bytealg.IndexString"], unfollowed := true, recurses := true, named := ["internal/bytealg.MaxLen"], apart := false, narrowed := true }
def WorldDoesUptoSaid : Prop := worldDoesUptoRow.holds Tryz.pinned (OpenSpec.upto worldDoesSpec)

/-- 'valiselaw18.WorldMemory', WHERE WHAT IT READS IS OF BULK AT MOST 1048576: true; the input reads as it did. -/
def worldMemoryUptoRow : OpenClaim := { program := "ytbnfiigafobejaagreat", sum := "6ba2c80fc8e677a19e1685e827419e676ab43c9b9f557d875c62723ab60cb6dd", func := "valise/valiselaw18.WorldMemory", spec := "worldMemory", inPlace := ["internal/bytealg.IndexByteString", "internal/bytealg.IndexString"], unfollowed := true, recurses := true, named := ["internal/bytealg.MaxLen"], apart := false, narrowed := true }
def WorldMemoryUptoSaid : Prop := worldMemoryUptoRow.holds Tryz.pinned (OpenSpec.upto worldMemorySpec)

/-- 'valiselaw18.WorldClients', WHERE WHAT IT READS IS OF BULK AT MOST 1048576: true; the input reads as it did. -/
def worldClientsUptoRow : OpenClaim := { program := "ytbnfiigafobejaagreat", sum := "6ba2c80fc8e677a19e1685e827419e676ab43c9b9f557d875c62723ab60cb6dd", func := "valise/valiselaw18.WorldClients", spec := "worldClients", inPlace := ["internal/bytealg.IndexByteString", "internal/bytealg.IndexString"], unfollowed := true, recurses := true, named := ["internal/bytealg.MaxLen"], apart := false, narrowed := true }
def WorldClientsUptoSaid : Prop := worldClientsUptoRow.holds Tryz.pinned (OpenSpec.upto worldClientsSpec)

end Rows
end Go.Proofs.YtbnfiigafobejaaGreat
