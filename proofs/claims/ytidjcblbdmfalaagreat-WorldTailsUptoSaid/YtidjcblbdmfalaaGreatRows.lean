/-
  No cell of these rows narrows 'for every input' (looked for: loops, veiled, ifaces, maps, wideKeys, modest, calm, conditions, laid).
  DERIVED. THE GIVEN ROWS OF THIS SEAT. 10 by the template 'for every input the law returns true; each argument reads behind the call as it read before'; 0 by the template 'total and deterministic' (their statements: YtidjcblbdmfalaaGreatTotals.lean).
  GIVEN WITH THE SEED: the statements are not yours to turn. If you find one false, say at which input.
  Laid BY PROGRAM, IN A SANDBOX (cutbox-rows.mjs): the forced cells as the released guide's own fill.sh prints them over the translation 19f7c5bb3075c8e5… (all of the seat's roots in one cut). By AI agents, Wed Nov 11 2026. No macro, syntax, notation, axiom, sorry.
-/
import Derived.Test.YtidjcblbdmfalaaGreatChecked
import GoSem.Claim
import GoSem.ClaimJoined
import GoSem.ClaimMapViews
import Derived.JoinedTies
import Derived.KernelRfl
namespace Go.Proofs.YtidjcblbdmfalaaGreat
/- THE CELL 'sum', in the pinned program and in every row, IS THE sha256 OF THE DUMP (.gsa) THAT YtidjcblbdmfalaaGreatProg.lean LOADS. Nothing in Lean hashes anything: it is a label: what it is worth is what the hold of that sum in a sandbox is worth. -/
noncomputable def Tryz.pinned : Pinned := { name := "ytidjcblbdmfalaagreat", sum := "19f7c5bb3075c8e5f6eab53c88834de440006a91e10d734728ce3d7c27e3d337", checked := Tryz.checked }
namespace Rows
def none {H : Type} : Left H := { results := [], args := [] }

/-- 'valiselaw18.WorldFails': WHATEVER THE INPUT: true; the input reads as it did. -/
def worldFailsSpec : ChangeSpec := { name := "worldFails", fn := fun _ => fun
  | [d1, d2, d3] => { results := [.lit (.bool true)], args := [d1, d2, d3] }
  | _ => none }
def worldFailsRow : OpenClaim := { program := "ytidjcblbdmfalaagreat", sum := "19f7c5bb3075c8e5f6eab53c88834de440006a91e10d734728ce3d7c27e3d337", func := "valise/valiselaw18.WorldFails", spec := "worldFails", inPlace := ["internal/bytealg.IndexByteString", "internal/bytealg.IndexString"], unfollowed := true, recurses := true, named := ["internal/bytealg.MaxLen"], leaving := true, apart := false }
def WorldFailsSaid : Prop := worldFailsRow.holds Tryz.pinned (OpenSpec.ofChange worldFailsSpec)

/-- ITS FALSE NEIGHBOUR: 'it returns false'. Refute it at one input. -/
def worldFailsWrong : ChangeSpec := { name := "worldFails", fn := fun _ => fun
  | [d1, d2, d3] => { results := [.lit (.bool false)], args := [d1, d2, d3] }
  | _ => none }
def WorldFailsWrongFalsely : Prop := worldFailsRow.holds Tryz.pinned (OpenSpec.ofChange worldFailsWrong)

/-- 'valiselaw18.WorldQuiet': WHATEVER THE INPUT: true; the input reads as it did. -/
def worldQuietSpec : ChangeSpec := { name := "worldQuiet", fn := fun _ => fun
  | [d1, d2] => { results := [.lit (.bool true)], args := [d1, d2] }
  | _ => none }
def worldQuietRow : OpenClaim := { program := "ytidjcblbdmfalaagreat", sum := "19f7c5bb3075c8e5f6eab53c88834de440006a91e10d734728ce3d7c27e3d337", func := "valise/valiselaw18.WorldQuiet", spec := "worldQuiet", inPlace := ["internal/bytealg.IndexByteString", "internal/bytealg.IndexString"], unfollowed := true, recurses := true, named := ["internal/bytealg.MaxLen"], leaving := true, apart := false }
def WorldQuietSaid : Prop := worldQuietRow.holds Tryz.pinned (OpenSpec.ofChange worldQuietSpec)

/-- ITS FALSE NEIGHBOUR: 'it returns false'. Refute it at one input. -/
def worldQuietWrong : ChangeSpec := { name := "worldQuiet", fn := fun _ => fun
  | [d1, d2] => { results := [.lit (.bool false)], args := [d1, d2] }
  | _ => none }
def WorldQuietWrongFalsely : Prop := worldQuietRow.holds Tryz.pinned (OpenSpec.ofChange worldQuietWrong)

/-- 'valiselaw18.WorldTails': WHATEVER THE INPUT: true; the input reads as it did. -/
def worldTailsSpec : ChangeSpec := { name := "worldTails", fn := fun _ => fun
  | [d1, d2, d3] => { results := [.lit (.bool true)], args := [d1, d2, d3] }
  | _ => none }
def worldTailsRow : OpenClaim := { program := "ytidjcblbdmfalaagreat", sum := "19f7c5bb3075c8e5f6eab53c88834de440006a91e10d734728ce3d7c27e3d337", func := "valise/valiselaw18.WorldTails", spec := "worldTails", inPlace := ["internal/bytealg.IndexByteString", "internal/bytealg.IndexString"], unfollowed := true, recurses := true, named := ["internal/bytealg.MaxLen"], leaving := true, apart := false }
def WorldTailsSaid : Prop := worldTailsRow.holds Tryz.pinned (OpenSpec.ofChange worldTailsSpec)

/-- ITS FALSE NEIGHBOUR: 'it returns false'. Refute it at one input. -/
def worldTailsWrong : ChangeSpec := { name := "worldTails", fn := fun _ => fun
  | [d1, d2, d3] => { results := [.lit (.bool false)], args := [d1, d2, d3] }
  | _ => none }
def WorldTailsWrongFalsely : Prop := worldTailsRow.holds Tryz.pinned (OpenSpec.ofChange worldTailsWrong)

/-- 'valiselaw18.WorldConfined': WHATEVER THE INPUT: true; the input reads as it did. -/
def worldConfinedSpec : ChangeSpec := { name := "worldConfined", fn := fun _ => fun
  | [d1, d2] => { results := [.lit (.bool true)], args := [d1, d2] }
  | _ => none }
def worldConfinedRow : OpenClaim := { program := "ytidjcblbdmfalaagreat", sum := "19f7c5bb3075c8e5f6eab53c88834de440006a91e10d734728ce3d7c27e3d337", func := "valise/valiselaw18.WorldConfined", spec := "worldConfined", inPlace := ["internal/bytealg.IndexByteString", "internal/bytealg.IndexString"], unfollowed := true, recurses := true, named := ["internal/bytealg.MaxLen"], leaving := true, apart := false }
def WorldConfinedSaid : Prop := worldConfinedRow.holds Tryz.pinned (OpenSpec.ofChange worldConfinedSpec)

/-- ITS FALSE NEIGHBOUR: 'it returns false'. Refute it at one input. -/
def worldConfinedWrong : ChangeSpec := { name := "worldConfined", fn := fun _ => fun
  | [d1, d2] => { results := [.lit (.bool false)], args := [d1, d2] }
  | _ => none }
def WorldConfinedWrongFalsely : Prop := worldConfinedRow.holds Tryz.pinned (OpenSpec.ofChange worldConfinedWrong)

/-- 'valiselaw18.WorldDoes': WHATEVER THE INPUT: true; the input reads as it did. -/
def worldDoesSpec : ChangeSpec := { name := "worldDoes", fn := fun _ => fun
  | [d1, d2] => { results := [.lit (.bool true)], args := [d1, d2] }
  | _ => none }
def worldDoesRow : OpenClaim := { program := "ytidjcblbdmfalaagreat", sum := "19f7c5bb3075c8e5f6eab53c88834de440006a91e10d734728ce3d7c27e3d337", func := "valise/valiselaw18.WorldDoes", spec := "worldDoes", inPlace := ["internal/bytealg.IndexByteString", "internal/bytealg.IndexString"], unfollowed := true, recurses := true, named := ["internal/bytealg.MaxLen"], leaving := true, apart := false }
def WorldDoesSaid : Prop := worldDoesRow.holds Tryz.pinned (OpenSpec.ofChange worldDoesSpec)

/-- ITS FALSE NEIGHBOUR: 'it returns false'. Refute it at one input. -/
def worldDoesWrong : ChangeSpec := { name := "worldDoes", fn := fun _ => fun
  | [d1, d2] => { results := [.lit (.bool false)], args := [d1, d2] }
  | _ => none }
def WorldDoesWrongFalsely : Prop := worldDoesRow.holds Tryz.pinned (OpenSpec.ofChange worldDoesWrong)

/-- 'valiselaw18.WorldMemory': WHATEVER THE INPUT: true; the input reads as it did. -/
def worldMemorySpec : ChangeSpec := { name := "worldMemory", fn := fun _ => fun
  | [d1, d2, d3] => { results := [.lit (.bool true)], args := [d1, d2, d3] }
  | _ => none }
def worldMemoryRow : OpenClaim := { program := "ytidjcblbdmfalaagreat", sum := "19f7c5bb3075c8e5f6eab53c88834de440006a91e10d734728ce3d7c27e3d337", func := "valise/valiselaw18.WorldMemory", spec := "worldMemory", inPlace := ["internal/bytealg.IndexByteString", "internal/bytealg.IndexString"], unfollowed := true, recurses := true, named := ["internal/bytealg.MaxLen"], leaving := true, apart := false }
def WorldMemorySaid : Prop := worldMemoryRow.holds Tryz.pinned (OpenSpec.ofChange worldMemorySpec)

/-- ITS FALSE NEIGHBOUR: 'it returns false'. Refute it at one input. -/
def worldMemoryWrong : ChangeSpec := { name := "worldMemory", fn := fun _ => fun
  | [d1, d2, d3] => { results := [.lit (.bool false)], args := [d1, d2, d3] }
  | _ => none }
def WorldMemoryWrongFalsely : Prop := worldMemoryRow.holds Tryz.pinned (OpenSpec.ofChange worldMemoryWrong)

/-- 'valiselaw18.WorldClients': WHATEVER THE INPUT: true; the input reads as it did. -/
def worldClientsSpec : ChangeSpec := { name := "worldClients", fn := fun _ => fun
  | [d1, d2] => { results := [.lit (.bool true)], args := [d1, d2] }
  | _ => none }
def worldClientsRow : OpenClaim := { program := "ytidjcblbdmfalaagreat", sum := "19f7c5bb3075c8e5f6eab53c88834de440006a91e10d734728ce3d7c27e3d337", func := "valise/valiselaw18.WorldClients", spec := "worldClients", inPlace := ["internal/bytealg.IndexByteString", "internal/bytealg.IndexString"], unfollowed := true, recurses := true, named := ["internal/bytealg.MaxLen"], leaving := true, apart := false }
def WorldClientsSaid : Prop := worldClientsRow.holds Tryz.pinned (OpenSpec.ofChange worldClientsSpec)

/-- ITS FALSE NEIGHBOUR: 'it returns false'. Refute it at one input. -/
def worldClientsWrong : ChangeSpec := { name := "worldClients", fn := fun _ => fun
  | [d1, d2] => { results := [.lit (.bool false)], args := [d1, d2] }
  | _ => none }
def WorldClientsWrongFalsely : Prop := worldClientsRow.holds Tryz.pinned (OpenSpec.ofChange worldClientsWrong)

/-- 'valiselaw22.PumpWhole': WHATEVER THE INPUT: true; the input reads as it did. -/
def pumpWholeSpec : ChangeSpec := { name := "pumpWhole", fn := fun _ => fun
  | [d1, d2] => { results := [.lit (.bool true)], args := [d1, d2] }
  | _ => none }
def pumpWholeRow : OpenClaim := { program := "ytidjcblbdmfalaagreat", sum := "19f7c5bb3075c8e5f6eab53c88834de440006a91e10d734728ce3d7c27e3d337", func := "valise/valiselaw22.PumpWhole", spec := "pumpWhole", inPlace := ["internal/bytealg.IndexByteString", "internal/bytealg.IndexString"], unfollowed := true, recurses := true, named := ["internal/bytealg.MaxLen"], leaving := true, apart := false }
def PumpWholeSaid : Prop := pumpWholeRow.holds Tryz.pinned (OpenSpec.ofChange pumpWholeSpec)

/-- ITS FALSE NEIGHBOUR: 'it returns false'. Refute it at one input. -/
def pumpWholeWrong : ChangeSpec := { name := "pumpWhole", fn := fun _ => fun
  | [d1, d2] => { results := [.lit (.bool false)], args := [d1, d2] }
  | _ => none }
def PumpWholeWrongFalsely : Prop := pumpWholeRow.holds Tryz.pinned (OpenSpec.ofChange pumpWholeWrong)

/-- 'valiselaw22.PumpBeginning': WHATEVER THE INPUT: true; the input reads as it did. -/
def pumpBeginningSpec : ChangeSpec := { name := "pumpBeginning", fn := fun _ => fun
  | [d1, d2, d3] => { results := [.lit (.bool true)], args := [d1, d2, d3] }
  | _ => none }
def pumpBeginningRow : OpenClaim := { program := "ytidjcblbdmfalaagreat", sum := "19f7c5bb3075c8e5f6eab53c88834de440006a91e10d734728ce3d7c27e3d337", func := "valise/valiselaw22.PumpBeginning", spec := "pumpBeginning", inPlace := ["internal/bytealg.IndexByteString", "internal/bytealg.IndexString"], unfollowed := true, recurses := true, named := ["internal/bytealg.MaxLen"], leaving := true, apart := false }
def PumpBeginningSaid : Prop := pumpBeginningRow.holds Tryz.pinned (OpenSpec.ofChange pumpBeginningSpec)

/-- ITS FALSE NEIGHBOUR: 'it returns false'. Refute it at one input. -/
def pumpBeginningWrong : ChangeSpec := { name := "pumpBeginning", fn := fun _ => fun
  | [d1, d2, d3] => { results := [.lit (.bool false)], args := [d1, d2, d3] }
  | _ => none }
def PumpBeginningWrongFalsely : Prop := pumpBeginningRow.holds Tryz.pinned (OpenSpec.ofChange pumpBeginningWrong)

/-- 'valiselaw22.PumpSends': WHATEVER THE INPUT: true; the input reads as it did. -/
def pumpSendsSpec : ChangeSpec := { name := "pumpSends", fn := fun _ => fun
  | [d1, d2, d3] => { results := [.lit (.bool true)], args := [d1, d2, d3] }
  | _ => none }
def pumpSendsRow : OpenClaim := { program := "ytidjcblbdmfalaagreat", sum := "19f7c5bb3075c8e5f6eab53c88834de440006a91e10d734728ce3d7c27e3d337", func := "valise/valiselaw22.PumpSends", spec := "pumpSends", inPlace := ["internal/bytealg.IndexByteString", "internal/bytealg.IndexString"], unfollowed := true, recurses := true, named := ["internal/bytealg.MaxLen"], leaving := true, apart := false }
def PumpSendsSaid : Prop := pumpSendsRow.holds Tryz.pinned (OpenSpec.ofChange pumpSendsSpec)

/-- ITS FALSE NEIGHBOUR: 'it returns false'. Refute it at one input. -/
def pumpSendsWrong : ChangeSpec := { name := "pumpSends", fn := fun _ => fun
  | [d1, d2, d3] => { results := [.lit (.bool false)], args := [d1, d2, d3] }
  | _ => none }
def PumpSendsWrongFalsely : Prop := pumpSendsRow.holds Tryz.pinned (OpenSpec.ofChange pumpSendsWrong)

/- THE SECOND FORM. 'bulk': how many values and letters a reading holds, each counted each time it is reached (what is shared counts as often as it is met; a slice's spare places count too). A statement '..UptoSaid' is the law's where the arguments, and the package variables that the reading takes, are together of bulk at most 1048576: NARROWER than '..Said'. Prove '..Said' where nothing that the law and all that it calls make is longer than what came in: it says more and counts as full. Else prove '..UptoSaid'. A law counts once. -/
mutual
def uptoBulk {H : Type} : DataW H → Nat
  | .lit (.string bytes) => bytes.length + 1
  | .lit _ => 1
  | .nil => 1
  | .ptr d => uptoBulk d + 1
  | .slice elems spare => uptoBulkAll elems + uptoBulkAll spare + 1
  | .agg parts => uptoBulkAll parts + 1
  | .iface _ d => uptoBulk d + 1
  | .map entries => uptoBulkEntries entries + 1
  | .held _ => 1
def uptoBulkAll {H : Type} : List (DataW H) → Nat
  | [] => 0
  | d :: r => uptoBulk d + uptoBulkAll r
def uptoBulkEntries {H : Type} : List (Lit × DataW H) → Nat
  | [] => 0
  | x :: r => uptoBulkEntry x + uptoBulkEntries r
def uptoBulkEntry {H : Type} : Lit × DataW H → Nat
  | (.string bytes, d) => bytes.length + uptoBulk d + 1
  | (_, d) => uptoBulk d + 1
 end
def uptoSmall : (H : Type) → List (DataW H) → Bool := fun _ ds => decide (uptoBulkAll ds ≤ 1048576)
def OpenSpec.upto (s : _root_.Go.ChangeSpec) : _root_.Go.OpenSpec := { _root_.Go.OpenSpec.ofChange s with cond := some uptoSmall }

/-- 'valiselaw18.WorldFails', WHERE WHAT IT READS IS OF BULK AT MOST 1048576: true; the input reads as it did. -/
def worldFailsUptoRow : OpenClaim := { program := "ytidjcblbdmfalaagreat", sum := "19f7c5bb3075c8e5f6eab53c88834de440006a91e10d734728ce3d7c27e3d337", func := "valise/valiselaw18.WorldFails", spec := "worldFails", inPlace := ["internal/bytealg.IndexByteString", "internal/bytealg.IndexString"], unfollowed := true, recurses := true, named := ["internal/bytealg.MaxLen"], leaving := true, apart := false, narrowed := true }
def WorldFailsUptoSaid : Prop := worldFailsUptoRow.holds Tryz.pinned (OpenSpec.upto worldFailsSpec)

/-- 'valiselaw18.WorldQuiet', WHERE WHAT IT READS IS OF BULK AT MOST 1048576: true; the input reads as it did. -/
def worldQuietUptoRow : OpenClaim := { program := "ytidjcblbdmfalaagreat", sum := "19f7c5bb3075c8e5f6eab53c88834de440006a91e10d734728ce3d7c27e3d337", func := "valise/valiselaw18.WorldQuiet", spec := "worldQuiet", inPlace := ["internal/bytealg.IndexByteString", "internal/bytealg.IndexString"], unfollowed := true, recurses := true, named := ["internal/bytealg.MaxLen"], leaving := true, apart := false, narrowed := true }
def WorldQuietUptoSaid : Prop := worldQuietUptoRow.holds Tryz.pinned (OpenSpec.upto worldQuietSpec)

/-- 'valiselaw18.WorldTails', WHERE WHAT IT READS IS OF BULK AT MOST 1048576: true; the input reads as it did. -/
def worldTailsUptoRow : OpenClaim := { program := "ytidjcblbdmfalaagreat", sum := "19f7c5bb3075c8e5f6eab53c88834de440006a91e10d734728ce3d7c27e3d337", func := "valise/valiselaw18.WorldTails", spec := "worldTails", inPlace := ["internal/bytealg.IndexByteString", "internal/bytealg.IndexString"], unfollowed := true, recurses := true, named := ["internal/bytealg.MaxLen"], leaving := true, apart := false, narrowed := true }
def WorldTailsUptoSaid : Prop := worldTailsUptoRow.holds Tryz.pinned (OpenSpec.upto worldTailsSpec)

/-- 'valiselaw18.WorldConfined', WHERE WHAT IT READS IS OF BULK AT MOST 1048576: true; the input reads as it did. -/
def worldConfinedUptoRow : OpenClaim := { program := "ytidjcblbdmfalaagreat", sum := "19f7c5bb3075c8e5f6eab53c88834de440006a91e10d734728ce3d7c27e3d337", func := "valise/valiselaw18.WorldConfined", spec := "worldConfined", inPlace := ["internal/bytealg.IndexByteString", "internal/bytealg.IndexString"], unfollowed := true, recurses := true, named := ["internal/bytealg.MaxLen"], leaving := true, apart := false, narrowed := true }
def WorldConfinedUptoSaid : Prop := worldConfinedUptoRow.holds Tryz.pinned (OpenSpec.upto worldConfinedSpec)

/-- 'valiselaw18.WorldDoes', WHERE WHAT IT READS IS OF BULK AT MOST 1048576: true; the input reads as it did. -/
def worldDoesUptoRow : OpenClaim := { program := "ytidjcblbdmfalaagreat", sum := "19f7c5bb3075c8e5f6eab53c88834de440006a91e10d734728ce3d7c27e3d337", func := "valise/valiselaw18.WorldDoes", spec := "worldDoes", inPlace := ["internal/bytealg.IndexByteString", "internal/bytealg.IndexString"], unfollowed := true, recurses := true, named := ["internal/bytealg.MaxLen"], leaving := true, apart := false, narrowed := true }
def WorldDoesUptoSaid : Prop := worldDoesUptoRow.holds Tryz.pinned (OpenSpec.upto worldDoesSpec)

/-- 'valiselaw18.WorldMemory', WHERE WHAT IT READS IS OF BULK AT MOST 1048576: true; the input reads as it did. -/
def worldMemoryUptoRow : OpenClaim := { program := "ytidjcblbdmfalaagreat", sum := "19f7c5bb3075c8e5f6eab53c88834de440006a91e10d734728ce3d7c27e3d337", func := "valise/valiselaw18.WorldMemory", spec := "worldMemory", inPlace := ["internal/bytealg.IndexByteString", "internal/bytealg.IndexString"], unfollowed := true, recurses := true, named := ["internal/bytealg.MaxLen"], leaving := true, apart := false, narrowed := true }
def WorldMemoryUptoSaid : Prop := worldMemoryUptoRow.holds Tryz.pinned (OpenSpec.upto worldMemorySpec)

/-- 'valiselaw18.WorldClients', WHERE WHAT IT READS IS OF BULK AT MOST 1048576: true; the input reads as it did. -/
def worldClientsUptoRow : OpenClaim := { program := "ytidjcblbdmfalaagreat", sum := "19f7c5bb3075c8e5f6eab53c88834de440006a91e10d734728ce3d7c27e3d337", func := "valise/valiselaw18.WorldClients", spec := "worldClients", inPlace := ["internal/bytealg.IndexByteString", "internal/bytealg.IndexString"], unfollowed := true, recurses := true, named := ["internal/bytealg.MaxLen"], leaving := true, apart := false, narrowed := true }
def WorldClientsUptoSaid : Prop := worldClientsUptoRow.holds Tryz.pinned (OpenSpec.upto worldClientsSpec)

/-- 'valiselaw22.PumpWhole', WHERE WHAT IT READS IS OF BULK AT MOST 1048576: true; the input reads as it did. -/
def pumpWholeUptoRow : OpenClaim := { program := "ytidjcblbdmfalaagreat", sum := "19f7c5bb3075c8e5f6eab53c88834de440006a91e10d734728ce3d7c27e3d337", func := "valise/valiselaw22.PumpWhole", spec := "pumpWhole", inPlace := ["internal/bytealg.IndexByteString", "internal/bytealg.IndexString"], unfollowed := true, recurses := true, named := ["internal/bytealg.MaxLen"], leaving := true, apart := false, narrowed := true }
def PumpWholeUptoSaid : Prop := pumpWholeUptoRow.holds Tryz.pinned (OpenSpec.upto pumpWholeSpec)

/-- 'valiselaw22.PumpBeginning', WHERE WHAT IT READS IS OF BULK AT MOST 1048576: true; the input reads as it did. -/
def pumpBeginningUptoRow : OpenClaim := { program := "ytidjcblbdmfalaagreat", sum := "19f7c5bb3075c8e5f6eab53c88834de440006a91e10d734728ce3d7c27e3d337", func := "valise/valiselaw22.PumpBeginning", spec := "pumpBeginning", inPlace := ["internal/bytealg.IndexByteString", "internal/bytealg.IndexString"], unfollowed := true, recurses := true, named := ["internal/bytealg.MaxLen"], leaving := true, apart := false, narrowed := true }
def PumpBeginningUptoSaid : Prop := pumpBeginningUptoRow.holds Tryz.pinned (OpenSpec.upto pumpBeginningSpec)

/-- 'valiselaw22.PumpSends', WHERE WHAT IT READS IS OF BULK AT MOST 1048576: true; the input reads as it did. -/
def pumpSendsUptoRow : OpenClaim := { program := "ytidjcblbdmfalaagreat", sum := "19f7c5bb3075c8e5f6eab53c88834de440006a91e10d734728ce3d7c27e3d337", func := "valise/valiselaw22.PumpSends", spec := "pumpSends", inPlace := ["internal/bytealg.IndexByteString", "internal/bytealg.IndexString"], unfollowed := true, recurses := true, named := ["internal/bytealg.MaxLen"], leaving := true, apart := false, narrowed := true }
def PumpSendsUptoSaid : Prop := pumpSendsUptoRow.holds Tryz.pinned (OpenSpec.upto pumpSendsSpec)

end Rows
end Go.Proofs.YtidjcblbdmfalaaGreat
