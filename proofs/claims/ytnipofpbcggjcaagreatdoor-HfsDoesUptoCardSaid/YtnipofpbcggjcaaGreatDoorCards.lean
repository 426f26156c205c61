/-
  DERIVED. GIVEN WITH THE SEED: THE CARDS: each row of YtnipofpbcggjcaaGreatDoorRows.lean that lists a variable, with what it lists TIED to the program's text (the seventh form; the later family's looks); each row that meets fmt, with fmt's text TOLD by the authors' own Lean function (tested against real Go, not proved from fmt's source: count such statements apart). THE CARD IS WHAT COUNTS. Prove the row's statement (the work); the ties are given (YtnipofpbcggjcaaGreatDoorTie.lean); close each card by the builder's one call (the guide's Derived/Test/ToyasCard.lean, 'card_holds'). Laid BY PROGRAM, IN A SANDBOX (cutbox-door.mjs). By AI agents, Wed Nov 11 2026. No macro, syntax, notation, axiom, sorry.
-/
import Derived.Test.YtnipofpbcggjcaaGreatDoorRows
import GoSem.ClaimSeven
namespace Go.Proofs.YtnipofpbcggjcaaGreatDoor
namespace Rows

/-- THE TIED CARD OF 'valiselaw17.HfsDoes'. -/
def hfsDoesCard : Claim7 := { stood := { row := hfsDoesRow, standIns := [], harness := (true, "efaac8b458886e67c42169065facc4378a106071dd43b7572d1787d983d19102"), looks := true }, kinds := [], alts := [], laidByText := true, laidKinds := [.data, .pinned], laidTests := true, laidLooks := .later }
def HfsDoesCardSaid : Prop := Claim7.holds Tryz.pinned (.plain (OpenSpec.ofChange hfsDoesSpec)) hfsDoesCard

/-- THE SECOND FORM's CARD OF 'valiselaw17.HfsDoes'. -/
def hfsDoesUptoCard : Claim7 := { stood := { row := hfsDoesUptoRow, standIns := [], harness := (true, "efaac8b458886e67c42169065facc4378a106071dd43b7572d1787d983d19102"), looks := true }, kinds := [], alts := [], laidByText := true, laidKinds := [.data, .pinned], laidTests := true, laidLooks := .later }
def HfsDoesUptoCardSaid : Prop := Claim7.holds Tryz.pinned (.plain (OpenSpec.upto hfsDoesSpec)) hfsDoesUptoCard
end Rows
end Go.Proofs.YtnipofpbcggjcaaGreatDoor
