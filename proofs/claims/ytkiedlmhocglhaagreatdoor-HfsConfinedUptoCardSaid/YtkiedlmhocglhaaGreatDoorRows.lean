/-
  NARROWER THAN 'FOR EVERY INPUT', by the rows' own cells (each row's printed sentence says how): HfsNames: laid · HfsRefused: laid · HfsDoes: laid · HfsSound: laid · HfsConfined: laid.
  DERIVED. THE GIVEN ROWS OF THIS SEAT. 5 by the template 'for every input the law returns true; each argument reads behind the call as it read before'; 0 by the template 'total and deterministic' (their statements: YtkiedlmhocglhaaGreatDoorTotals.lean).
  GIVEN WITH THE SEED: the statements are not yours to turn. If you find one false, say at which input.
  Laid BY PROGRAM, IN A SANDBOX (cutbox-rows.mjs): the forced cells as the released guide's own fill.sh prints them over the translation d42760aabf43ae68… (all of the seat's roots in one cut). By AI agents, Wed Nov 11 2026. No macro, syntax, notation, axiom, sorry.
-/
import Derived.Test.YtkiedlmhocglhaaGreatDoorChecked
import GoSem.PinnedTables
import GoSem.Claim
import GoSem.ClaimJoined
import GoSem.ClaimMapViews
import Derived.JoinedTies
import Derived.KernelRfl
namespace Go.Proofs.YtkiedlmhocglhaaGreatDoor
/- THE CELL 'sum', in the pinned program and in every row, IS THE sha256 OF THE DUMP (.gsa) THAT YtkiedlmhocglhaaGreatDoorProg.lean LOADS. Nothing in Lean hashes anything: it is a label: what it is worth is what the hold of that sum in a sandbox is worth. -/
noncomputable def Tryz.pinned : Pinned := { name := "ytkiedlmhocglhaagreatdoor", sum := "d42760aabf43ae6816ded83b705e20907e66ee1cf5aa3c3585b77abf2a3e41f6", checked := Tryz.checked }
namespace Rows
def none {H : Type} : Left H := { results := [], args := [] }

/- WHAT THE LISTED PACKAGE-LEVEL VARIABLES READ AS WHEN THE CALL BEGINS. Each datum BY PROGRAM (the guide's laid-datum.mjs) off the statement by which the dump's own 'gosem.cut.vars' lays the variable. In a bare row this is a premise. The card (YtkiedlmhocglhaaGreatDoorCards.lean) ties it to the program's text. -/
def laid_unicode_utf8_acceptRanges {H : Type} : DataW H := .agg [.agg [.lit (.int .u8 128), .lit (.int .u8 191)], .agg [.lit (.int .u8 160), .lit (.int .u8 191)], .agg [.lit (.int .u8 128), .lit (.int .u8 159)], .agg [.lit (.int .u8 144), .lit (.int .u8 191)], .agg [.lit (.int .u8 128), .lit (.int .u8 143)], .agg [.lit (.int .u8 0), .lit (.int .u8 0)], .agg [.lit (.int .u8 0), .lit (.int .u8 0)], .agg [.lit (.int .u8 0), .lit (.int .u8 0)], .agg [.lit (.int .u8 0), .lit (.int .u8 0)], .agg [.lit (.int .u8 0), .lit (.int .u8 0)], .agg [.lit (.int .u8 0), .lit (.int .u8 0)], .agg [.lit (.int .u8 0), .lit (.int .u8 0)], .agg [.lit (.int .u8 0), .lit (.int .u8 0)], .agg [.lit (.int .u8 0), .lit (.int .u8 0)], .agg [.lit (.int .u8 0), .lit (.int .u8 0)], .agg [.lit (.int .u8 0), .lit (.int .u8 0)]]
/-- One of Go's own tables, pinned by name: the form's constant. -/
def laid_unicode_utf8_first : DataW Unit := Go.Pinned.utf8First

/-- 'valiselaw17.HfsNames': WHATEVER THE INPUT: true; the input reads as it did. -/
def hfsNamesSpec : ChangeSpec := { name := "hfsNames", fn := fun _ => fun
  | [d1, d2, d3] => { results := [.lit (.bool true)], args := [d1, d2, d3] }
  | _ => none }
def hfsNamesRow : OpenClaim := { program := "ytkiedlmhocglhaagreatdoor", sum := "d42760aabf43ae6816ded83b705e20907e66ee1cf5aa3c3585b77abf2a3e41f6", func := "valise/valiselaw17.HfsNames", spec := "hfsNames", inPlace := ["internal/bytealg.IndexByteString", "internal/bytealg.IndexString", "internal/bytealg.CountString"], unfollowed := true, recurses := true, named := ["unicode/utf8.first", "unicode/utf8.acceptRanges", "internal/bytealg.MaxLen"], apart := false, laid := [("unicode/utf8.acceptRanges", laid_unicode_utf8_acceptRanges), ("unicode/utf8.first", laid_unicode_utf8_first)] }
def HfsNamesSaid : Prop := hfsNamesRow.holds Tryz.pinned (OpenSpec.ofChange hfsNamesSpec)

/-- ITS FALSE NEIGHBOUR: 'it returns false'. Refute it at one input. -/
def hfsNamesWrong : ChangeSpec := { name := "hfsNames", fn := fun _ => fun
  | [d1, d2, d3] => { results := [.lit (.bool false)], args := [d1, d2, d3] }
  | _ => none }
def HfsNamesWrongFalsely : Prop := hfsNamesRow.holds Tryz.pinned (OpenSpec.ofChange hfsNamesWrong)

/-- 'valiselaw17.HfsRefused': WHATEVER THE INPUT: true; the input reads as it did. -/
def hfsRefusedSpec : ChangeSpec := { name := "hfsRefused", fn := fun _ => fun
  | [d1, d2] => { results := [.lit (.bool true)], args := [d1, d2] }
  | _ => none }
def hfsRefusedRow : OpenClaim := { program := "ytkiedlmhocglhaagreatdoor", sum := "d42760aabf43ae6816ded83b705e20907e66ee1cf5aa3c3585b77abf2a3e41f6", func := "valise/valiselaw17.HfsRefused", spec := "hfsRefused", inPlace := ["internal/bytealg.IndexByteString", "internal/bytealg.IndexString", "internal/bytealg.CountString"], unfollowed := true, recurses := true, named := ["unicode/utf8.first", "unicode/utf8.acceptRanges", "internal/bytealg.MaxLen"], apart := false, laid := [("unicode/utf8.acceptRanges", laid_unicode_utf8_acceptRanges), ("unicode/utf8.first", laid_unicode_utf8_first)] }
def HfsRefusedSaid : Prop := hfsRefusedRow.holds Tryz.pinned (OpenSpec.ofChange hfsRefusedSpec)

/-- ITS FALSE NEIGHBOUR: 'it returns false'. Refute it at one input. -/
def hfsRefusedWrong : ChangeSpec := { name := "hfsRefused", fn := fun _ => fun
  | [d1, d2] => { results := [.lit (.bool false)], args := [d1, d2] }
  | _ => none }
def HfsRefusedWrongFalsely : Prop := hfsRefusedRow.holds Tryz.pinned (OpenSpec.ofChange hfsRefusedWrong)

/-- 'valiselaw17.HfsDoes': WHATEVER THE INPUT: true; the input reads as it did. -/
def hfsDoesSpec : ChangeSpec := { name := "hfsDoes", fn := fun _ => fun
  | [d1, d2] => { results := [.lit (.bool true)], args := [d1, d2] }
  | _ => none }
def hfsDoesRow : OpenClaim := { program := "ytkiedlmhocglhaagreatdoor", sum := "d42760aabf43ae6816ded83b705e20907e66ee1cf5aa3c3585b77abf2a3e41f6", func := "valise/valiselaw17.HfsDoes", spec := "hfsDoes", inPlace := ["internal/bytealg.IndexByteString", "internal/bytealg.IndexString", "internal/bytealg.CountString"], unfollowed := true, recurses := true, named := ["unicode/utf8.first", "unicode/utf8.acceptRanges", "internal/bytealg.MaxLen"], apart := false, laid := [("unicode/utf8.acceptRanges", laid_unicode_utf8_acceptRanges), ("unicode/utf8.first", laid_unicode_utf8_first)] }
def HfsDoesSaid : Prop := hfsDoesRow.holds Tryz.pinned (OpenSpec.ofChange hfsDoesSpec)

/-- ITS FALSE NEIGHBOUR: 'it returns false'. Refute it at one input. -/
def hfsDoesWrong : ChangeSpec := { name := "hfsDoes", fn := fun _ => fun
  | [d1, d2] => { results := [.lit (.bool false)], args := [d1, d2] }
  | _ => none }
def HfsDoesWrongFalsely : Prop := hfsDoesRow.holds Tryz.pinned (OpenSpec.ofChange hfsDoesWrong)

/-- 'valiselaw17.HfsSound': WHATEVER THE INPUT: true; the input reads as it did. -/
def hfsSoundSpec : ChangeSpec := { name := "hfsSound", fn := fun _ => fun
  | [d1, d2] => { results := [.lit (.bool true)], args := [d1, d2] }
  | _ => none }
def hfsSoundRow : OpenClaim := { program := "ytkiedlmhocglhaagreatdoor", sum := "d42760aabf43ae6816ded83b705e20907e66ee1cf5aa3c3585b77abf2a3e41f6", func := "valise/valiselaw17.HfsSound", spec := "hfsSound", inPlace := ["internal/bytealg.IndexByteString", "internal/bytealg.IndexString", "internal/bytealg.CountString"], unfollowed := true, recurses := true, named := ["unicode/utf8.first", "unicode/utf8.acceptRanges", "internal/bytealg.MaxLen"], apart := false, laid := [("unicode/utf8.acceptRanges", laid_unicode_utf8_acceptRanges), ("unicode/utf8.first", laid_unicode_utf8_first)] }
def HfsSoundSaid : Prop := hfsSoundRow.holds Tryz.pinned (OpenSpec.ofChange hfsSoundSpec)

/-- ITS FALSE NEIGHBOUR: 'it returns false'. Refute it at one input. -/
def hfsSoundWrong : ChangeSpec := { name := "hfsSound", fn := fun _ => fun
  | [d1, d2] => { results := [.lit (.bool false)], args := [d1, d2] }
  | _ => none }
def HfsSoundWrongFalsely : Prop := hfsSoundRow.holds Tryz.pinned (OpenSpec.ofChange hfsSoundWrong)

/-- 'valiselaw17.HfsConfined': WHATEVER THE INPUT: true; the input reads as it did. -/
def hfsConfinedSpec : ChangeSpec := { name := "hfsConfined", fn := fun _ => fun
  | [d1, d2, d3] => { results := [.lit (.bool true)], args := [d1, d2, d3] }
  | _ => none }
def hfsConfinedRow : OpenClaim := { program := "ytkiedlmhocglhaagreatdoor", sum := "d42760aabf43ae6816ded83b705e20907e66ee1cf5aa3c3585b77abf2a3e41f6", func := "valise/valiselaw17.HfsConfined", spec := "hfsConfined", inPlace := ["internal/bytealg.IndexByteString", "internal/bytealg.IndexString", "internal/bytealg.CountString"], unfollowed := true, recurses := true, named := ["unicode/utf8.first", "unicode/utf8.acceptRanges", "internal/bytealg.MaxLen"], apart := false, laid := [("unicode/utf8.acceptRanges", laid_unicode_utf8_acceptRanges), ("unicode/utf8.first", laid_unicode_utf8_first)] }
def HfsConfinedSaid : Prop := hfsConfinedRow.holds Tryz.pinned (OpenSpec.ofChange hfsConfinedSpec)

/-- ITS FALSE NEIGHBOUR: 'it returns false'. Refute it at one input. -/
def hfsConfinedWrong : ChangeSpec := { name := "hfsConfined", fn := fun _ => fun
  | [d1, d2, d3] => { results := [.lit (.bool false)], args := [d1, d2, d3] }
  | _ => none }
def HfsConfinedWrongFalsely : Prop := hfsConfinedRow.holds Tryz.pinned (OpenSpec.ofChange hfsConfinedWrong)

/- THE SECOND FORM. 'bulk': how many values and letters a reading holds, each counted each time it is reached (what is shared counts as often as it is met; a slice's spare places count too). A statement '..UptoSaid' is the law's where the arguments, and the package variables that the reading takes, are together of bulk at most 1048576: NARROWER than '..Said'. Prove '..Said' where nothing that the law and all that it calls make is longer than what came in: it says more and counts as full. Else prove '..UptoSaid'. A law counts once. -/
mutual
def uptoBulk {H : Type} : DataW H → Nat
  | .lit (.string bytes) => bytes.length + 1
  | .lit _ => 1
  | .nil => 1
  | .ptr d => uptoBulk d + 1
  | .slice elems spare => uptoBulkAll elems + uptoBulkAll spare + 1
  | .agg parts => uptoBulkAll parts + 1
  | .iface _ d => uptoBulk d + 1
  | .map entries => uptoBulkEntries entries + 1
  | .held _ => 1
def uptoBulkAll {H : Type} : List (DataW H) → Nat
  | [] => 0
  | d :: r => uptoBulk d + uptoBulkAll r
def uptoBulkEntries {H : Type} : List (Lit × DataW H) → Nat
  | [] => 0
  | x :: r => uptoBulkEntry x + uptoBulkEntries r
def uptoBulkEntry {H : Type} : Lit × DataW H → Nat
  | (.string bytes, d) => bytes.length + uptoBulk d + 1
  | (_, d) => uptoBulk d + 1
 end
def uptoSmall : (H : Type) → List (DataW H) → Bool := fun _ ds => decide (uptoBulkAll ds ≤ 1048576)
def OpenSpec.upto (s : _root_.Go.ChangeSpec) : _root_.Go.OpenSpec := { _root_.Go.OpenSpec.ofChange s with cond := some uptoSmall }

/-- 'valiselaw17.HfsNames', WHERE WHAT IT READS IS OF BULK AT MOST 1048576: true; the input reads as it did. -/
def hfsNamesUptoRow : OpenClaim := { program := "ytkiedlmhocglhaagreatdoor", sum := "d42760aabf43ae6816ded83b705e20907e66ee1cf5aa3c3585b77abf2a3e41f6", func := "valise/valiselaw17.HfsNames", spec := "hfsNames", inPlace := ["internal/bytealg.IndexByteString", "internal/bytealg.IndexString", "internal/bytealg.CountString"], unfollowed := true, recurses := true, named := ["unicode/utf8.first", "unicode/utf8.acceptRanges", "internal/bytealg.MaxLen"], apart := false, laid := [("unicode/utf8.acceptRanges", laid_unicode_utf8_acceptRanges), ("unicode/utf8.first", laid_unicode_utf8_first)], narrowed := true }
def HfsNamesUptoSaid : Prop := hfsNamesUptoRow.holds Tryz.pinned (OpenSpec.upto hfsNamesSpec)

/-- 'valiselaw17.HfsRefused', WHERE WHAT IT READS IS OF BULK AT MOST 1048576: true; the input reads as it did. -/
def hfsRefusedUptoRow : OpenClaim := { program := "ytkiedlmhocglhaagreatdoor", sum := "d42760aabf43ae6816ded83b705e20907e66ee1cf5aa3c3585b77abf2a3e41f6", func := "valise/valiselaw17.HfsRefused", spec := "hfsRefused", inPlace := ["internal/bytealg.IndexByteString", "internal/bytealg.IndexString", "internal/bytealg.CountString"], unfollowed := true, recurses := true, named := ["unicode/utf8.first", "unicode/utf8.acceptRanges", "internal/bytealg.MaxLen"], apart := false, laid := [("unicode/utf8.acceptRanges", laid_unicode_utf8_acceptRanges), ("unicode/utf8.first", laid_unicode_utf8_first)], narrowed := true }
def HfsRefusedUptoSaid : Prop := hfsRefusedUptoRow.holds Tryz.pinned (OpenSpec.upto hfsRefusedSpec)

/-- 'valiselaw17.HfsDoes', WHERE WHAT IT READS IS OF BULK AT MOST 1048576: true; the input reads as it did. -/
def hfsDoesUptoRow : OpenClaim := { program := "ytkiedlmhocglhaagreatdoor", sum := "d42760aabf43ae6816ded83b705e20907e66ee1cf5aa3c3585b77abf2a3e41f6", func := "valise/valiselaw17.HfsDoes", spec := "hfsDoes", inPlace := ["internal/bytealg.IndexByteString", "internal/bytealg.IndexString", "internal/bytealg.CountString"], unfollowed := true, recurses := true, named := ["unicode/utf8.first", "unicode/utf8.acceptRanges", "internal/bytealg.MaxLen"], apart := false, laid := [("unicode/utf8.acceptRanges", laid_unicode_utf8_acceptRanges), ("unicode/utf8.first", laid_unicode_utf8_first)], narrowed := true }
def HfsDoesUptoSaid : Prop := hfsDoesUptoRow.holds Tryz.pinned (OpenSpec.upto hfsDoesSpec)

/-- 'valiselaw17.HfsSound', WHERE WHAT IT READS IS OF BULK AT MOST 1048576: true; the input reads as it did. -/
def hfsSoundUptoRow : OpenClaim := { program := "ytkiedlmhocglhaagreatdoor", sum := "d42760aabf43ae6816ded83b705e20907e66ee1cf5aa3c3585b77abf2a3e41f6", func := "valise/valiselaw17.HfsSound", spec := "hfsSound", inPlace := ["internal/bytealg.IndexByteString", "internal/bytealg.IndexString", "internal/bytealg.CountString"], unfollowed := true, recurses := true, named := ["unicode/utf8.first", "unicode/utf8.acceptRanges", "internal/bytealg.MaxLen"], apart := false, laid := [("unicode/utf8.acceptRanges", laid_unicode_utf8_acceptRanges), ("unicode/utf8.first", laid_unicode_utf8_first)], narrowed := true }
def HfsSoundUptoSaid : Prop := hfsSoundUptoRow.holds Tryz.pinned (OpenSpec.upto hfsSoundSpec)

/-- 'valiselaw17.HfsConfined', WHERE WHAT IT READS IS OF BULK AT MOST 1048576: true; the input reads as it did. -/
def hfsConfinedUptoRow : OpenClaim := { program := "ytkiedlmhocglhaagreatdoor", sum := "d42760aabf43ae6816ded83b705e20907e66ee1cf5aa3c3585b77abf2a3e41f6", func := "valise/valiselaw17.HfsConfined", spec := "hfsConfined", inPlace := ["internal/bytealg.IndexByteString", "internal/bytealg.IndexString", "internal/bytealg.CountString"], unfollowed := true, recurses := true, named := ["unicode/utf8.first", "unicode/utf8.acceptRanges", "internal/bytealg.MaxLen"], apart := false, laid := [("unicode/utf8.acceptRanges", laid_unicode_utf8_acceptRanges), ("unicode/utf8.first", laid_unicode_utf8_first)], narrowed := true }
def HfsConfinedUptoSaid : Prop := hfsConfinedUptoRow.holds Tryz.pinned (OpenSpec.upto hfsConfinedSpec)

end Rows
end Go.Proofs.YtkiedlmhocglhaaGreatDoor
