/-
  DERIVED. GIVEN WITH THE SEED: THE CARDS: each row of YtalknpihidcnmabDoorRows.lean that lists a variable, with what it lists TIED to the program's text (the seventh form; the later family's looks); each row that meets fmt, with fmt's text TOLD by the authors' own Lean function (tested against real Go, not proved from fmt's source: count such statements apart). THE CARD IS WHAT COUNTS. Prove the row's statement (the work); the ties are given (YtalknpihidcnmabDoorTie.lean); close each card by the builder's one call (the guide's Derived/Test/ToyasCard.lean, 'card_holds'). Laid BY PROGRAM, IN A SANDBOX (cutbox-door.mjs). By AI agents, Wed Nov 11 2026. No macro, syntax, notation, axiom, sorry.
-/
import Derived.Test.YtalknpihidcnmabDoorRows
import GoSem.ClaimSeven
namespace Go.Proofs.YtalknpihidcnmabDoor
namespace Rows

/-- THE TIED CARD OF 'valiselaw19.ResolveReasons'. -/
def resolveReasonsCard : Claim7 := { stood := { row := resolveReasonsRow, standIns := [], harness := (true, "475b1bc37b107b139f6ac340e419aa1a4d5dc2d95ee89802bcaeb739638c9e5d"), looks := true }, kinds := [], alts := [], laidByText := true, laidKinds := [.handle], laidTests := true, laidLooks := .later }
def ResolveReasonsCardSaid : Prop := Claim7.holds Tryd.pinned (.plain (OpenSpec.ofChange resolveReasonsSpec)) resolveReasonsCard

/-- THE SECOND FORM's CARD OF 'valiselaw19.ResolveReasons'. -/
def resolveReasonsUptoCard : Claim7 := { stood := { row := resolveReasonsUptoRow, standIns := [], harness := (true, "475b1bc37b107b139f6ac340e419aa1a4d5dc2d95ee89802bcaeb739638c9e5d"), looks := true }, kinds := [], alts := [], laidByText := true, laidKinds := [.handle], laidTests := true, laidLooks := .later }
def ResolveReasonsUptoCardSaid : Prop := Claim7.holds Tryd.pinned (.plain (OpenSpec.upto resolveReasonsSpec)) resolveReasonsUptoCard
end Rows
end Go.Proofs.YtalknpihidcnmabDoor
