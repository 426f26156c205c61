/-
  No cell of these rows narrows 'for every input' (looked for: loops, veiled, ifaces, maps, wideKeys, modest, calm, conditions, laid).
  DERIVED. THE GIVEN ROWS OF THIS SEAT. 4 by the template 'for every input the law returns true; each argument reads behind the call as it read before'; 0 by the template 'total and deterministic' (their statements: YtejnhhpjlajngaaTotals.lean).
  GIVEN WITH THE SEED: the statements are not yours to turn. If you find one false, say at which input.
  Laid BY PROGRAM, IN A SANDBOX (cutbox-rows.mjs): the forced cells as the released guide's own fill.sh prints them over the translation d385369464ef3470… (all of the seat's roots in one cut). By AI agents, Wed Nov 11 2026. No macro, syntax, notation, axiom, sorry.
-/
import Derived.Test.YtejnhhpjlajngaaChecked
import GoSem.Claim
import GoSem.ClaimJoined
import GoSem.ClaimMapViews
import Derived.JoinedTies
import Derived.KernelRfl
namespace Go.Proofs.Ytejnhhpjlajngaa
/- THE CELL 'sum', in the pinned program and in every row, IS THE sha256 OF THE DUMP (.gsa) THAT YtejnhhpjlajngaaProg.lean LOADS. Nothing in Lean hashes anything: it is a label: what it is worth is what the hold of that sum in a sandbox is worth. -/
noncomputable def Try.pinned : Pinned := { name := "ytejnhhpjlajngaa", sum := "d385369464ef3470348bd5819ddead757d6c2943e210b56df37528907512da20", checked := Try.checked }
namespace Rows
def none {H : Type} : Left H := { results := [], args := [] }

/-- 'valiselaw13.SlotsPairs': WHATEVER THE INPUT: true; the input reads as it did. -/
def slotsPairsSpec : ChangeSpec := { name := "slotsPairs", fn := fun _ => fun
  | [d1, d2] => { results := [.lit (.bool true)], args := [d1, d2] }
  | _ => none }
def slotsPairsRow : OpenClaim := { program := "ytejnhhpjlajngaa", sum := "d385369464ef3470348bd5819ddead757d6c2943e210b56df37528907512da20", func := "valise/valiselaw13.SlotsPairs", spec := "slotsPairs", unfollowed := true, recurses := true, apart := false }
def SlotsPairsSaid : Prop := slotsPairsRow.holds Try.pinned (OpenSpec.ofChange slotsPairsSpec)

/-- ITS FALSE NEIGHBOUR: 'it returns false'. Refute it at one input. -/
def slotsPairsWrong : ChangeSpec := { name := "slotsPairs", fn := fun _ => fun
  | [d1, d2] => { results := [.lit (.bool false)], args := [d1, d2] }
  | _ => none }
def SlotsPairsWrongFalsely : Prop := slotsPairsRow.holds Try.pinned (OpenSpec.ofChange slotsPairsWrong)

/-- 'valiselaw13.SlotsMemory': WHATEVER THE INPUT: true; the input reads as it did. -/
def slotsMemorySpec : ChangeSpec := { name := "slotsMemory", fn := fun _ => fun
  | [d] => { results := [.lit (.bool true)], args := [d] }
  | _ => none }
def slotsMemoryRow : OpenClaim := { program := "ytejnhhpjlajngaa", sum := "d385369464ef3470348bd5819ddead757d6c2943e210b56df37528907512da20", func := "valise/valiselaw13.SlotsMemory", spec := "slotsMemory", unfollowed := true, recurses := true, apart := false }
def SlotsMemorySaid : Prop := slotsMemoryRow.holds Try.pinned (OpenSpec.ofChange slotsMemorySpec)

/-- ITS FALSE NEIGHBOUR: 'it returns false'. Refute it at one input. -/
def slotsMemoryWrong : ChangeSpec := { name := "slotsMemory", fn := fun _ => fun
  | [d] => { results := [.lit (.bool false)], args := [d] }
  | _ => none }
def SlotsMemoryWrongFalsely : Prop := slotsMemoryRow.holds Try.pinned (OpenSpec.ofChange slotsMemoryWrong)

/-- 'valiselaw13.SlotsLeast': WHATEVER THE INPUT: true; the input reads as it did. -/
def slotsLeastSpec : ChangeSpec := { name := "slotsLeast", fn := fun _ => fun
  | [d1, d2] => { results := [.lit (.bool true)], args := [d1, d2] }
  | _ => none }
def slotsLeastRow : OpenClaim := { program := "ytejnhhpjlajngaa", sum := "d385369464ef3470348bd5819ddead757d6c2943e210b56df37528907512da20", func := "valise/valiselaw13.SlotsLeast", spec := "slotsLeast", unfollowed := true, recurses := true, apart := false }
def SlotsLeastSaid : Prop := slotsLeastRow.holds Try.pinned (OpenSpec.ofChange slotsLeastSpec)

/-- ITS FALSE NEIGHBOUR: 'it returns false'. Refute it at one input. -/
def slotsLeastWrong : ChangeSpec := { name := "slotsLeast", fn := fun _ => fun
  | [d1, d2] => { results := [.lit (.bool false)], args := [d1, d2] }
  | _ => none }
def SlotsLeastWrongFalsely : Prop := slotsLeastRow.holds Try.pinned (OpenSpec.ofChange slotsLeastWrong)

/-- 'valiselaw13.SlotsNumbers': WHATEVER THE INPUT: true; the input reads as it did. -/
def slotsNumbersSpec : ChangeSpec := { name := "slotsNumbers", fn := fun _ => fun
  | [d1, d2] => { results := [.lit (.bool true)], args := [d1, d2] }
  | _ => none }
def slotsNumbersRow : OpenClaim := { program := "ytejnhhpjlajngaa", sum := "d385369464ef3470348bd5819ddead757d6c2943e210b56df37528907512da20", func := "valise/valiselaw13.SlotsNumbers", spec := "slotsNumbers", unfollowed := true, recurses := true, apart := false }
def SlotsNumbersSaid : Prop := slotsNumbersRow.holds Try.pinned (OpenSpec.ofChange slotsNumbersSpec)

/-- ITS FALSE NEIGHBOUR: 'it returns false'. Refute it at one input. -/
def slotsNumbersWrong : ChangeSpec := { name := "slotsNumbers", fn := fun _ => fun
  | [d1, d2] => { results := [.lit (.bool false)], args := [d1, d2] }
  | _ => none }
def SlotsNumbersWrongFalsely : Prop := slotsNumbersRow.holds Try.pinned (OpenSpec.ofChange slotsNumbersWrong)

/- THE SECOND FORM. 'bulk': how many values and letters a reading holds, each counted each time it is reached (what is shared counts as often as it is met; a slice's spare places count too). A statement '..UptoSaid' is the law's where the arguments, and the package variables that the reading takes, are together of bulk at most 1048576: NARROWER than '..Said'. Prove '..Said' where nothing that the law and all that it calls make is longer than what came in: it says more and counts as full. Else prove '..UptoSaid'. A law counts once. -/
mutual
def uptoBulk {H : Type} : DataW H → Nat
  | .lit (.string bytes) => bytes.length + 1
  | .lit _ => 1
  | .nil => 1
  | .ptr d => uptoBulk d + 1
  | .slice elems spare => uptoBulkAll elems + uptoBulkAll spare + 1
  | .agg parts => uptoBulkAll parts + 1
  | .iface _ d => uptoBulk d + 1
  | .map entries => uptoBulkEntries entries + 1
  | .held _ => 1
def uptoBulkAll {H : Type} : List (DataW H) → Nat
  | [] => 0
  | d :: r => uptoBulk d + uptoBulkAll r
def uptoBulkEntries {H : Type} : List (Lit × DataW H) → Nat
  | [] => 0
  | x :: r => uptoBulkEntry x + uptoBulkEntries r
def uptoBulkEntry {H : Type} : Lit × DataW H → Nat
  | (.string bytes, d) => bytes.length + uptoBulk d + 1
  | (_, d) => uptoBulk d + 1
 end
def uptoSmall : (H : Type) → List (DataW H) → Bool := fun _ ds => decide (uptoBulkAll ds ≤ 1048576)
def OpenSpec.upto (s : _root_.Go.ChangeSpec) : _root_.Go.OpenSpec := { _root_.Go.OpenSpec.ofChange s with cond := some uptoSmall }

/-- 'valiselaw13.SlotsPairs', WHERE WHAT IT READS IS OF BULK AT MOST 1048576: true; the input reads as it did. -/
def slotsPairsUptoRow : OpenClaim := { program := "ytejnhhpjlajngaa", sum := "d385369464ef3470348bd5819ddead757d6c2943e210b56df37528907512da20", func := "valise/valiselaw13.SlotsPairs", spec := "slotsPairs", unfollowed := true, recurses := true, apart := false, narrowed := true }
def SlotsPairsUptoSaid : Prop := slotsPairsUptoRow.holds Try.pinned (OpenSpec.upto slotsPairsSpec)

/-- 'valiselaw13.SlotsMemory', WHERE WHAT IT READS IS OF BULK AT MOST 1048576: true; the input reads as it did. -/
def slotsMemoryUptoRow : OpenClaim := { program := "ytejnhhpjlajngaa", sum := "d385369464ef3470348bd5819ddead757d6c2943e210b56df37528907512da20", func := "valise/valiselaw13.SlotsMemory", spec := "slotsMemory", unfollowed := true, recurses := true, apart := false, narrowed := true }
def SlotsMemoryUptoSaid : Prop := slotsMemoryUptoRow.holds Try.pinned (OpenSpec.upto slotsMemorySpec)

/-- 'valiselaw13.SlotsLeast', WHERE WHAT IT READS IS OF BULK AT MOST 1048576: true; the input reads as it did. -/
def slotsLeastUptoRow : OpenClaim := { program := "ytejnhhpjlajngaa", sum := "d385369464ef3470348bd5819ddead757d6c2943e210b56df37528907512da20", func := "valise/valiselaw13.SlotsLeast", spec := "slotsLeast", unfollowed := true, recurses := true, apart := false, narrowed := true }
def SlotsLeastUptoSaid : Prop := slotsLeastUptoRow.holds Try.pinned (OpenSpec.upto slotsLeastSpec)

/-- 'valiselaw13.SlotsNumbers', WHERE WHAT IT READS IS OF BULK AT MOST 1048576: true; the input reads as it did. -/
def slotsNumbersUptoRow : OpenClaim := { program := "ytejnhhpjlajngaa", sum := "d385369464ef3470348bd5819ddead757d6c2943e210b56df37528907512da20", func := "valise/valiselaw13.SlotsNumbers", spec := "slotsNumbers", unfollowed := true, recurses := true, apart := false, narrowed := true }
def SlotsNumbersUptoSaid : Prop := slotsNumbersUptoRow.holds Try.pinned (OpenSpec.upto slotsNumbersSpec)

end Rows
end Go.Proofs.Ytejnhhpjlajngaa
