/-
  No cell of these rows narrows 'for every input' (looked for: loops, veiled, ifaces, maps, wideKeys, modest, calm, conditions, laid).
  DERIVED. THE GIVEN ROWS OF THIS SEAT. 11 by the template 'for every input the law returns true; each argument reads behind the call as it read before'; 0 by the template 'total and deterministic' (their statements: YtjpdcppdoonmdaaTotals.lean).
  GIVEN WITH THE SEED: the statements are not yours to turn. If you find one false, say at which input.
  Laid BY PROGRAM, IN A SANDBOX (cutbox-rows.mjs): the forced cells as the released guide's own fill.sh prints them over the translation a482c8ad7b768431… (all of the seat's roots in one cut). By AI agents, Wed Nov 11 2026. No macro, syntax, notation, axiom, sorry.
-/
import Derived.Test.YtjpdcppdoonmdaaChecked
import GoSem.Claim
import GoSem.ClaimJoined
import GoSem.ClaimMapViews
import Derived.JoinedTies
import Derived.KernelRfl
namespace Go.Proofs.Ytjpdcppdoonmdaa
/- THE CELL 'sum', in the pinned program and in every row, IS THE sha256 OF THE DUMP (.gsa) THAT YtjpdcppdoonmdaaProg.lean LOADS. Nothing in Lean hashes anything: it is a label: what it is worth is what the hold of that sum in a sandbox is worth. -/
noncomputable def Try.pinned : Pinned := { name := "ytjpdcppdoonmdaa", sum := "a482c8ad7b7684315ff97f37bc3e040ffae6e0d2a5b069b6c1b759353ce45fcb", checked := Try.checked }
namespace Rows
def none {H : Type} : Left H := { results := [], args := [] }

/-- 'valiselaw14.GraphChecks': WHATEVER THE INPUT: true; the input reads as it did. -/
def graphChecksSpec : ChangeSpec := { name := "graphChecks", fn := fun _ => fun
  | [d] => { results := [.lit (.bool true)], args := [d] }
  | _ => none }
def graphChecksRow : OpenClaim := { program := "ytjpdcppdoonmdaa", sum := "a482c8ad7b7684315ff97f37bc3e040ffae6e0d2a5b069b6c1b759353ce45fcb", func := "valise/valiselaw14.GraphChecks", spec := "graphChecks", inPlace := ["internal/bytealg.IndexByteString", "internal/bytealg.IndexString"], named := ["internal/bytealg.MaxLen"], apart := false }
def GraphChecksSaid : Prop := graphChecksRow.holds Try.pinned (OpenSpec.ofChange graphChecksSpec)

/-- ITS FALSE NEIGHBOUR: 'it returns false'. Refute it at one input. -/
def graphChecksWrong : ChangeSpec := { name := "graphChecks", fn := fun _ => fun
  | [d] => { results := [.lit (.bool false)], args := [d] }
  | _ => none }
def GraphChecksWrongFalsely : Prop := graphChecksRow.holds Try.pinned (OpenSpec.ofChange graphChecksWrong)

/-- 'valiselaw14.GraphLinks': WHATEVER THE INPUT: true; the input reads as it did. -/
def graphLinksSpec : ChangeSpec := { name := "graphLinks", fn := fun _ => fun
  | [d1, d2] => { results := [.lit (.bool true)], args := [d1, d2] }
  | _ => none }
def graphLinksRow : OpenClaim := { program := "ytjpdcppdoonmdaa", sum := "a482c8ad7b7684315ff97f37bc3e040ffae6e0d2a5b069b6c1b759353ce45fcb", func := "valise/valiselaw14.GraphLinks", spec := "graphLinks", inPlace := ["internal/bytealg.IndexByteString", "internal/bytealg.IndexString"], named := ["internal/bytealg.MaxLen"], apart := false }
def GraphLinksSaid : Prop := graphLinksRow.holds Try.pinned (OpenSpec.ofChange graphLinksSpec)

/-- ITS FALSE NEIGHBOUR: 'it returns false'. Refute it at one input. -/
def graphLinksWrong : ChangeSpec := { name := "graphLinks", fn := fun _ => fun
  | [d1, d2] => { results := [.lit (.bool false)], args := [d1, d2] }
  | _ => none }
def GraphLinksWrongFalsely : Prop := graphLinksRow.holds Try.pinned (OpenSpec.ofChange graphLinksWrong)

/-- 'valiselaw14.GraphFinds': WHATEVER THE INPUT: true; the input reads as it did. -/
def graphFindsSpec : ChangeSpec := { name := "graphFinds", fn := fun _ => fun
  | [d1, d2, d3] => { results := [.lit (.bool true)], args := [d1, d2, d3] }
  | _ => none }
def graphFindsRow : OpenClaim := { program := "ytjpdcppdoonmdaa", sum := "a482c8ad7b7684315ff97f37bc3e040ffae6e0d2a5b069b6c1b759353ce45fcb", func := "valise/valiselaw14.GraphFinds", spec := "graphFinds", inPlace := ["internal/bytealg.IndexByteString", "internal/bytealg.IndexString", "internal/bytealg.abigen_runtime_cmpstring"], unfollowed := true, recurses := true, named := ["internal/bytealg.MaxLen"], apart := false }
def GraphFindsSaid : Prop := graphFindsRow.holds Try.pinned (OpenSpec.ofChange graphFindsSpec)

/-- ITS FALSE NEIGHBOUR: 'it returns false'. Refute it at one input. -/
def graphFindsWrong : ChangeSpec := { name := "graphFinds", fn := fun _ => fun
  | [d1, d2, d3] => { results := [.lit (.bool false)], args := [d1, d2, d3] }
  | _ => none }
def GraphFindsWrongFalsely : Prop := graphFindsRow.holds Try.pinned (OpenSpec.ofChange graphFindsWrong)

/-- 'valiselaw14.GraphTrees': WHATEVER THE INPUT: true; the input reads as it did. -/
def graphTreesSpec : ChangeSpec := { name := "graphTrees", fn := fun _ => fun
  | [d1, d2] => { results := [.lit (.bool true)], args := [d1, d2] }
  | _ => none }
def graphTreesRow : OpenClaim := { program := "ytjpdcppdoonmdaa", sum := "a482c8ad7b7684315ff97f37bc3e040ffae6e0d2a5b069b6c1b759353ce45fcb", func := "valise/valiselaw14.GraphTrees", spec := "graphTrees", inPlace := ["internal/bytealg.IndexByteString", "internal/bytealg.IndexString", "internal/bytealg.abigen_runtime_cmpstring"], unfollowed := true, recurses := true, named := ["internal/bytealg.MaxLen"], apart := false }
def GraphTreesSaid : Prop := graphTreesRow.holds Try.pinned (OpenSpec.ofChange graphTreesSpec)

/-- ITS FALSE NEIGHBOUR: 'it returns false'. Refute it at one input. -/
def graphTreesWrong : ChangeSpec := { name := "graphTrees", fn := fun _ => fun
  | [d1, d2] => { results := [.lit (.bool false)], args := [d1, d2] }
  | _ => none }
def GraphTreesWrongFalsely : Prop := graphTreesRow.holds Try.pinned (OpenSpec.ofChange graphTreesWrong)

/-- 'valiselaw14.GraphPaths': WHATEVER THE INPUT: true; the input reads as it did. -/
def graphPathsSpec : ChangeSpec := { name := "graphPaths", fn := fun _ => fun
  | [d1, d2] => { results := [.lit (.bool true)], args := [d1, d2] }
  | _ => none }
def graphPathsRow : OpenClaim := { program := "ytjpdcppdoonmdaa", sum := "a482c8ad7b7684315ff97f37bc3e040ffae6e0d2a5b069b6c1b759353ce45fcb", func := "valise/valiselaw14.GraphPaths", spec := "graphPaths", inPlace := ["internal/bytealg.IndexByteString", "internal/bytealg.IndexString", "internal/bytealg.abigen_runtime_cmpstring"], unfollowed := true, recurses := true, named := ["internal/bytealg.MaxLen"], apart := false }
def GraphPathsSaid : Prop := graphPathsRow.holds Try.pinned (OpenSpec.ofChange graphPathsSpec)

/-- ITS FALSE NEIGHBOUR: 'it returns false'. Refute it at one input. -/
def graphPathsWrong : ChangeSpec := { name := "graphPaths", fn := fun _ => fun
  | [d1, d2] => { results := [.lit (.bool false)], args := [d1, d2] }
  | _ => none }
def GraphPathsWrongFalsely : Prop := graphPathsRow.holds Try.pinned (OpenSpec.ofChange graphPathsWrong)

/-- 'valiselaw14.GraphPlants': WHATEVER THE INPUT: true; the input reads as it did. -/
def graphPlantsSpec : ChangeSpec := { name := "graphPlants", fn := fun _ => fun
  | [d] => { results := [.lit (.bool true)], args := [d] }
  | _ => none }
def graphPlantsRow : OpenClaim := { program := "ytjpdcppdoonmdaa", sum := "a482c8ad7b7684315ff97f37bc3e040ffae6e0d2a5b069b6c1b759353ce45fcb", func := "valise/valiselaw14.GraphPlants", spec := "graphPlants", inPlace := ["internal/bytealg.IndexByteString", "internal/bytealg.IndexString"], unfollowed := true, recurses := true, named := ["internal/bytealg.MaxLen"], apart := false }
def GraphPlantsSaid : Prop := graphPlantsRow.holds Try.pinned (OpenSpec.ofChange graphPlantsSpec)

/-- ITS FALSE NEIGHBOUR: 'it returns false'. Refute it at one input. -/
def graphPlantsWrong : ChangeSpec := { name := "graphPlants", fn := fun _ => fun
  | [d] => { results := [.lit (.bool false)], args := [d] }
  | _ => none }
def GraphPlantsWrongFalsely : Prop := graphPlantsRow.holds Try.pinned (OpenSpec.ofChange graphPlantsWrong)

/-- 'valiselaw14.GraphMemory': WHATEVER THE INPUT: true; the input reads as it did. -/
def graphMemorySpec : ChangeSpec := { name := "graphMemory", fn := fun _ => fun
  | [d1, d2] => { results := [.lit (.bool true)], args := [d1, d2] }
  | _ => none }
def graphMemoryRow : OpenClaim := { program := "ytjpdcppdoonmdaa", sum := "a482c8ad7b7684315ff97f37bc3e040ffae6e0d2a5b069b6c1b759353ce45fcb", func := "valise/valiselaw14.GraphMemory", spec := "graphMemory", inPlace := ["internal/bytealg.IndexByteString", "internal/bytealg.IndexString", "internal/bytealg.abigen_runtime_cmpstring"], unfollowed := true, recurses := true, named := ["internal/bytealg.MaxLen"], apart := false }
def GraphMemorySaid : Prop := graphMemoryRow.holds Try.pinned (OpenSpec.ofChange graphMemorySpec)

/-- ITS FALSE NEIGHBOUR: 'it returns false'. Refute it at one input. -/
def graphMemoryWrong : ChangeSpec := { name := "graphMemory", fn := fun _ => fun
  | [d1, d2] => { results := [.lit (.bool false)], args := [d1, d2] }
  | _ => none }
def GraphMemoryWrongFalsely : Prop := graphMemoryRow.holds Try.pinned (OpenSpec.ofChange graphMemoryWrong)

/-- 'valiselaw14.GraphRound': WHATEVER THE INPUT: true; the input reads as it did. -/
def graphRoundSpec : ChangeSpec := { name := "graphRound", fn := fun _ => fun
  | [d1, d2, d3] => { results := [.lit (.bool true)], args := [d1, d2, d3] }
  | _ => none }
def graphRoundRow : OpenClaim := { program := "ytjpdcppdoonmdaa", sum := "a482c8ad7b7684315ff97f37bc3e040ffae6e0d2a5b069b6c1b759353ce45fcb", func := "valise/valiselaw14.GraphRound", spec := "graphRound", inPlace := ["internal/bytealg.IndexByteString", "internal/bytealg.IndexString", "internal/bytealg.abigen_runtime_cmpstring"], unfollowed := true, recurses := true, named := ["internal/bytealg.MaxLen"], apart := false }
def GraphRoundSaid : Prop := graphRoundRow.holds Try.pinned (OpenSpec.ofChange graphRoundSpec)

/-- ITS FALSE NEIGHBOUR: 'it returns false'. Refute it at one input. -/
def graphRoundWrong : ChangeSpec := { name := "graphRound", fn := fun _ => fun
  | [d1, d2, d3] => { results := [.lit (.bool false)], args := [d1, d2, d3] }
  | _ => none }
def GraphRoundWrongFalsely : Prop := graphRoundRow.holds Try.pinned (OpenSpec.ofChange graphRoundWrong)

/-- 'valiselaw14.GraphUnders': WHATEVER THE INPUT: true; the input reads as it did. -/
def graphUndersSpec : ChangeSpec := { name := "graphUnders", fn := fun _ => fun
  | [d1, d2] => { results := [.lit (.bool true)], args := [d1, d2] }
  | _ => none }
def graphUndersRow : OpenClaim := { program := "ytjpdcppdoonmdaa", sum := "a482c8ad7b7684315ff97f37bc3e040ffae6e0d2a5b069b6c1b759353ce45fcb", func := "valise/valiselaw14.GraphUnders", spec := "graphUnders", inPlace := ["internal/bytealg.IndexByteString", "internal/bytealg.IndexString", "internal/bytealg.abigen_runtime_cmpstring"], unfollowed := true, recurses := true, named := ["internal/bytealg.MaxLen"], apart := false }
def GraphUndersSaid : Prop := graphUndersRow.holds Try.pinned (OpenSpec.ofChange graphUndersSpec)

/-- ITS FALSE NEIGHBOUR: 'it returns false'. Refute it at one input. -/
def graphUndersWrong : ChangeSpec := { name := "graphUnders", fn := fun _ => fun
  | [d1, d2] => { results := [.lit (.bool false)], args := [d1, d2] }
  | _ => none }
def GraphUndersWrongFalsely : Prop := graphUndersRow.holds Try.pinned (OpenSpec.ofChange graphUndersWrong)

/-- 'valiselaw14.GraphReaches': WHATEVER THE INPUT: true; the input reads as it did. -/
def graphReachesSpec : ChangeSpec := { name := "graphReaches", fn := fun _ => fun
  | [d1, d2, d3] => { results := [.lit (.bool true)], args := [d1, d2, d3] }
  | _ => none }
def graphReachesRow : OpenClaim := { program := "ytjpdcppdoonmdaa", sum := "a482c8ad7b7684315ff97f37bc3e040ffae6e0d2a5b069b6c1b759353ce45fcb", func := "valise/valiselaw14.GraphReaches", spec := "graphReaches", inPlace := ["internal/bytealg.IndexByteString", "internal/bytealg.IndexString", "internal/bytealg.abigen_runtime_cmpstring"], unfollowed := true, recurses := true, named := ["internal/bytealg.MaxLen"], apart := false }
def GraphReachesSaid : Prop := graphReachesRow.holds Try.pinned (OpenSpec.ofChange graphReachesSpec)

/-- ITS FALSE NEIGHBOUR: 'it returns false'. Refute it at one input. -/
def graphReachesWrong : ChangeSpec := { name := "graphReaches", fn := fun _ => fun
  | [d1, d2, d3] => { results := [.lit (.bool false)], args := [d1, d2, d3] }
  | _ => none }
def GraphReachesWrongFalsely : Prop := graphReachesRow.holds Try.pinned (OpenSpec.ofChange graphReachesWrong)

/-- 'valiselaw14.GraphOutside': WHATEVER THE INPUT: true; the input reads as it did. -/
def graphOutsideSpec : ChangeSpec := { name := "graphOutside", fn := fun _ => fun
  | [d1, d2, d3] => { results := [.lit (.bool true)], args := [d1, d2, d3] }
  | _ => none }
def graphOutsideRow : OpenClaim := { program := "ytjpdcppdoonmdaa", sum := "a482c8ad7b7684315ff97f37bc3e040ffae6e0d2a5b069b6c1b759353ce45fcb", func := "valise/valiselaw14.GraphOutside", spec := "graphOutside", inPlace := ["internal/bytealg.IndexByteString", "internal/bytealg.IndexString", "internal/bytealg.abigen_runtime_cmpstring"], unfollowed := true, recurses := true, named := ["internal/bytealg.MaxLen"], apart := false }
def GraphOutsideSaid : Prop := graphOutsideRow.holds Try.pinned (OpenSpec.ofChange graphOutsideSpec)

/-- ITS FALSE NEIGHBOUR: 'it returns false'. Refute it at one input. -/
def graphOutsideWrong : ChangeSpec := { name := "graphOutside", fn := fun _ => fun
  | [d1, d2, d3] => { results := [.lit (.bool false)], args := [d1, d2, d3] }
  | _ => none }
def GraphOutsideWrongFalsely : Prop := graphOutsideRow.holds Try.pinned (OpenSpec.ofChange graphOutsideWrong)

/- THE SECOND FORM. 'bulk': how many values and letters a reading holds, each counted each time it is reached (what is shared counts as often as it is met; a slice's spare places count too). A statement '..UptoSaid' is the law's where the arguments, and the package variables that the reading takes, are together of bulk at most 1048576: NARROWER than '..Said'. Prove '..Said' where nothing that the law and all that it calls make is longer than what came in: it says more and counts as full. Else prove '..UptoSaid'. A law counts once. -/
mutual
def uptoBulk {H : Type} : DataW H → Nat
  | .lit (.string bytes) => bytes.length + 1
  | .lit _ => 1
  | .nil => 1
  | .ptr d => uptoBulk d + 1
  | .slice elems spare => uptoBulkAll elems + uptoBulkAll spare + 1
  | .agg parts => uptoBulkAll parts + 1
  | .iface _ d => uptoBulk d + 1
  | .map entries => uptoBulkEntries entries + 1
  | .held _ => 1
def uptoBulkAll {H : Type} : List (DataW H) → Nat
  | [] => 0
  | d :: r => uptoBulk d + uptoBulkAll r
def uptoBulkEntries {H : Type} : List (Lit × DataW H) → Nat
  | [] => 0
  | x :: r => uptoBulkEntry x + uptoBulkEntries r
def uptoBulkEntry {H : Type} : Lit × DataW H → Nat
  | (.string bytes, d) => bytes.length + uptoBulk d + 1
  | (_, d) => uptoBulk d + 1
 end
def uptoSmall : (H : Type) → List (DataW H) → Bool := fun _ ds => decide (uptoBulkAll ds ≤ 1048576)
def OpenSpec.upto (s : _root_.Go.ChangeSpec) : _root_.Go.OpenSpec := { _root_.Go.OpenSpec.ofChange s with cond := some uptoSmall }

/-- 'valiselaw14.GraphChecks', WHERE WHAT IT READS IS OF BULK AT MOST 1048576: true; the input reads as it did. -/
def graphChecksUptoRow : OpenClaim := { program := "ytjpdcppdoonmdaa", sum := "a482c8ad7b7684315ff97f37bc3e040ffae6e0d2a5b069b6c1b759353ce45fcb", func := "valise/valiselaw14.GraphChecks", spec := "graphChecks", inPlace := ["internal/bytealg.IndexByteString", "internal/bytealg.IndexString"], named := ["internal/bytealg.MaxLen"], apart := false, narrowed := true }
def GraphChecksUptoSaid : Prop := graphChecksUptoRow.holds Try.pinned (OpenSpec.upto graphChecksSpec)

/-- 'valiselaw14.GraphLinks', WHERE WHAT IT READS IS OF BULK AT MOST 1048576: true; the input reads as it did. -/
def graphLinksUptoRow : OpenClaim := { program := "ytjpdcppdoonmdaa", sum := "a482c8ad7b7684315ff97f37bc3e040ffae6e0d2a5b069b6c1b759353ce45fcb", func := "valise/valiselaw14.GraphLinks", spec := "graphLinks", inPlace := ["internal/bytealg.IndexByteString", "internal/bytealg.IndexString"], named := ["internal/bytealg.MaxLen"], apart := false, narrowed := true }
def GraphLinksUptoSaid : Prop := graphLinksUptoRow.holds Try.pinned (OpenSpec.upto graphLinksSpec)

/-- 'valiselaw14.GraphFinds', WHERE WHAT IT READS IS OF BULK AT MOST 1048576: true; the input reads as it did. -/
def graphFindsUptoRow : OpenClaim := { program := "ytjpdcppdoonmdaa", sum := "a482c8ad7b7684315ff97f37bc3e040ffae6e0d2a5b069b6c1b759353ce45fcb", func := "valise/valiselaw14.GraphFinds", spec := "graphFinds", inPlace := ["internal/bytealg.IndexByteString", "internal/bytealg.IndexString", "internal/bytealg.abigen_runtime_cmpstring"], unfollowed := true, recurses := true, named := ["internal/bytealg.MaxLen"], apart := false, narrowed := true }
def GraphFindsUptoSaid : Prop := graphFindsUptoRow.holds Try.pinned (OpenSpec.upto graphFindsSpec)

/-- 'valiselaw14.GraphTrees', WHERE WHAT IT READS IS OF BULK AT MOST 1048576: true; the input reads as it did. -/
def graphTreesUptoRow : OpenClaim := { program := "ytjpdcppdoonmdaa", sum := "a482c8ad7b7684315ff97f37bc3e040ffae6e0d2a5b069b6c1b759353ce45fcb", func := "valise/valiselaw14.GraphTrees", spec := "graphTrees", inPlace := ["internal/bytealg.IndexByteString", "internal/bytealg.IndexString", "internal/bytealg.abigen_runtime_cmpstring"], unfollowed := true, recurses := true, named := ["internal/bytealg.MaxLen"], apart := false, narrowed := true }
def GraphTreesUptoSaid : Prop := graphTreesUptoRow.holds Try.pinned (OpenSpec.upto graphTreesSpec)

/-- 'valiselaw14.GraphPaths', WHERE WHAT IT READS IS OF BULK AT MOST 1048576: true; the input reads as it did. -/
def graphPathsUptoRow : OpenClaim := { program := "ytjpdcppdoonmdaa", sum := "a482c8ad7b7684315ff97f37bc3e040ffae6e0d2a5b069b6c1b759353ce45fcb", func := "valise/valiselaw14.GraphPaths", spec := "graphPaths", inPlace := ["internal/bytealg.IndexByteString", "internal/bytealg.IndexString", "internal/bytealg.abigen_runtime_cmpstring"], unfollowed := true, recurses := true, named := ["internal/bytealg.MaxLen"], apart := false, narrowed := true }
def GraphPathsUptoSaid : Prop := graphPathsUptoRow.holds Try.pinned (OpenSpec.upto graphPathsSpec)

/-- 'valiselaw14.GraphPlants', WHERE WHAT IT READS IS OF BULK AT MOST 1048576: true; the input reads as it did. -/
def graphPlantsUptoRow : OpenClaim := { program := "ytjpdcppdoonmdaa", sum := "a482c8ad7b7684315ff97f37bc3e040ffae6e0d2a5b069b6c1b759353ce45fcb", func := "valise/valiselaw14.GraphPlants", spec := "graphPlants", inPlace := ["internal/bytealg.IndexByteString", "internal/bytealg.IndexString"], unfollowed := true, recurses := true, named := ["internal/bytealg.MaxLen"], apart := false, narrowed := true }
def GraphPlantsUptoSaid : Prop := graphPlantsUptoRow.holds Try.pinned (OpenSpec.upto graphPlantsSpec)

/-- 'valiselaw14.GraphMemory', WHERE WHAT IT READS IS OF BULK AT MOST 1048576: true; the input reads as it did. -/
def graphMemoryUptoRow : OpenClaim := { program := "ytjpdcppdoonmdaa", sum := "a482c8ad7b7684315ff97f37bc3e040ffae6e0d2a5b069b6c1b759353ce45fcb", func := "valise/valiselaw14.GraphMemory", spec := "graphMemory", inPlace := ["internal/bytealg.IndexByteString", "internal/bytealg.IndexString", "internal/bytealg.abigen_runtime_cmpstring"], unfollowed := true, recurses := true, named := ["internal/bytealg.MaxLen"], apart := false, narrowed := true }
def GraphMemoryUptoSaid : Prop := graphMemoryUptoRow.holds Try.pinned (OpenSpec.upto graphMemorySpec)

/-- 'valiselaw14.GraphRound', WHERE WHAT IT READS IS OF BULK AT MOST 1048576: true; the input reads as it did. -/
def graphRoundUptoRow : OpenClaim := { program := "ytjpdcppdoonmdaa", sum := "a482c8ad7b7684315ff97f37bc3e040ffae6e0d2a5b069b6c1b759353ce45fcb", func := "valise/valiselaw14.GraphRound", spec := "graphRound", inPlace := ["internal/bytealg.IndexByteString", "internal/bytealg.IndexString", "internal/bytealg.abigen_runtime_cmpstring"], unfollowed := true, recurses := true, named := ["internal/bytealg.MaxLen"], apart := false, narrowed := true }
def GraphRoundUptoSaid : Prop := graphRoundUptoRow.holds Try.pinned (OpenSpec.upto graphRoundSpec)

/-- 'valiselaw14.GraphUnders', WHERE WHAT IT READS IS OF BULK AT MOST 1048576: true; the input reads as it did. -/
def graphUndersUptoRow : OpenClaim := { program := "ytjpdcppdoonmdaa", sum := "a482c8ad7b7684315ff97f37bc3e040ffae6e0d2a5b069b6c1b759353ce45fcb", func := "valise/valiselaw14.GraphUnders", spec := "graphUnders", inPlace := ["internal/bytealg.IndexByteString", "internal/bytealg.IndexString", "internal/bytealg.abigen_runtime_cmpstring"], unfollowed := true, recurses := true, named := ["internal/bytealg.MaxLen"], apart := false, narrowed := true }
def GraphUndersUptoSaid : Prop := graphUndersUptoRow.holds Try.pinned (OpenSpec.upto graphUndersSpec)

/-- 'valiselaw14.GraphReaches', WHERE WHAT IT READS IS OF BULK AT MOST 1048576: true; the input reads as it did. -/
def graphReachesUptoRow : OpenClaim := { program := "ytjpdcppdoonmdaa", sum := "a482c8ad7b7684315ff97f37bc3e040ffae6e0d2a5b069b6c1b759353ce45fcb", func := "valise/valiselaw14.GraphReaches", spec := "graphReaches", inPlace := ["internal/bytealg.IndexByteString", "internal/bytealg.IndexString", "internal/bytealg.abigen_runtime_cmpstring"], unfollowed := true, recurses := true, named := ["internal/bytealg.MaxLen"], apart := false, narrowed := true }
def GraphReachesUptoSaid : Prop := graphReachesUptoRow.holds Try.pinned (OpenSpec.upto graphReachesSpec)

/-- 'valiselaw14.GraphOutside', WHERE WHAT IT READS IS OF BULK AT MOST 1048576: true; the input reads as it did. -/
def graphOutsideUptoRow : OpenClaim := { program := "ytjpdcppdoonmdaa", sum := "a482c8ad7b7684315ff97f37bc3e040ffae6e0d2a5b069b6c1b759353ce45fcb", func := "valise/valiselaw14.GraphOutside", spec := "graphOutside", inPlace := ["internal/bytealg.IndexByteString", "internal/bytealg.IndexString", "internal/bytealg.abigen_runtime_cmpstring"], unfollowed := true, recurses := true, named := ["internal/bytealg.MaxLen"], apart := false, narrowed := true }
def GraphOutsideUptoSaid : Prop := graphOutsideUptoRow.holds Try.pinned (OpenSpec.upto graphOutsideSpec)

end Rows
end Go.Proofs.Ytjpdcppdoonmdaa
