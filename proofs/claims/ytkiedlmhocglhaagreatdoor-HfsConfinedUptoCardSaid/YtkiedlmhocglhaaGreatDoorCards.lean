/-
  DERIVED. GIVEN WITH THE SEED: THE CARDS: each row of YtkiedlmhocglhaaGreatDoorRows.lean that lists a variable, with what it lists TIED to the program's text (the seventh form; the later family's looks); each row that meets fmt, with fmt's text TOLD by the authors' own Lean function (tested against real Go, not proved from fmt's source: count such statements apart). THE CARD IS WHAT COUNTS. Prove the row's statement (the work); the ties are given (YtkiedlmhocglhaaGreatDoorTie.lean); close each card by the builder's one call (the guide's Derived/Test/ToyasCard.lean, 'card_holds'). Laid BY PROGRAM, IN A SANDBOX (cutbox-door.mjs). By AI agents, Wed Nov 11 2026. No macro, syntax, notation, axiom, sorry.
-/
import Derived.Test.YtkiedlmhocglhaaGreatDoorRows
import GoSem.ClaimSeven
namespace Go.Proofs.YtkiedlmhocglhaaGreatDoor
namespace Rows

/-- THE TIED CARD OF 'valiselaw17.HfsNames'. -/
def hfsNamesCard : Claim7 := { stood := { row := hfsNamesRow, standIns := [], harness := (true, "39bbdaf4d5b885042b952e698722333c45aad29b6e62010b5321acabbe307156"), looks := true }, kinds := [], alts := [], laidByText := true, laidKinds := [.data, .pinned], laidTests := true, laidLooks := .later }
def HfsNamesCardSaid : Prop := Claim7.holds Tryz.pinned (.plain (OpenSpec.ofChange hfsNamesSpec)) hfsNamesCard

/-- THE TIED CARD OF 'valiselaw17.HfsRefused'. -/
def hfsRefusedCard : Claim7 := { stood := { row := hfsRefusedRow, standIns := [], harness := (true, "39bbdaf4d5b885042b952e698722333c45aad29b6e62010b5321acabbe307156"), looks := true }, kinds := [], alts := [], laidByText := true, laidKinds := [.data, .pinned], laidTests := true, laidLooks := .later }
def HfsRefusedCardSaid : Prop := Claim7.holds Tryz.pinned (.plain (OpenSpec.ofChange hfsRefusedSpec)) hfsRefusedCard

/-- THE TIED CARD OF 'valiselaw17.HfsDoes'. -/
def hfsDoesCard : Claim7 := { stood := { row := hfsDoesRow, standIns := [], harness := (true, "39bbdaf4d5b885042b952e698722333c45aad29b6e62010b5321acabbe307156"), looks := true }, kinds := [], alts := [], laidByText := true, laidKinds := [.data, .pinned], laidTests := true, laidLooks := .later }
def HfsDoesCardSaid : Prop := Claim7.holds Tryz.pinned (.plain (OpenSpec.ofChange hfsDoesSpec)) hfsDoesCard

/-- THE TIED CARD OF 'valiselaw17.HfsSound'. -/
def hfsSoundCard : Claim7 := { stood := { row := hfsSoundRow, standIns := [], harness := (true, "39bbdaf4d5b885042b952e698722333c45aad29b6e62010b5321acabbe307156"), looks := true }, kinds := [], alts := [], laidByText := true, laidKinds := [.data, .pinned], laidTests := true, laidLooks := .later }
def HfsSoundCardSaid : Prop := Claim7.holds Tryz.pinned (.plain (OpenSpec.ofChange hfsSoundSpec)) hfsSoundCard

/-- THE TIED CARD OF 'valiselaw17.HfsConfined'. -/
def hfsConfinedCard : Claim7 := { stood := { row := hfsConfinedRow, standIns := [], harness := (true, "39bbdaf4d5b885042b952e698722333c45aad29b6e62010b5321acabbe307156"), looks := true }, kinds := [], alts := [], laidByText := true, laidKinds := [.data, .pinned], laidTests := true, laidLooks := .later }
def HfsConfinedCardSaid : Prop := Claim7.holds Tryz.pinned (.plain (OpenSpec.ofChange hfsConfinedSpec)) hfsConfinedCard

/-- THE SECOND FORM's CARD OF 'valiselaw17.HfsNames'. -/
def hfsNamesUptoCard : Claim7 := { stood := { row := hfsNamesUptoRow, standIns := [], harness := (true, "39bbdaf4d5b885042b952e698722333c45aad29b6e62010b5321acabbe307156"), looks := true }, kinds := [], alts := [], laidByText := true, laidKinds := [.data, .pinned], laidTests := true, laidLooks := .later }
def HfsNamesUptoCardSaid : Prop := Claim7.holds Tryz.pinned (.plain (OpenSpec.upto hfsNamesSpec)) hfsNamesUptoCard

/-- THE SECOND FORM's CARD OF 'valiselaw17.HfsRefused'. -/
def hfsRefusedUptoCard : Claim7 := { stood := { row := hfsRefusedUptoRow, standIns := [], harness := (true, "39bbdaf4d5b885042b952e698722333c45aad29b6e62010b5321acabbe307156"), looks := true }, kinds := [], alts := [], laidByText := true, laidKinds := [.data, .pinned], laidTests := true, laidLooks := .later }
def HfsRefusedUptoCardSaid : Prop := Claim7.holds Tryz.pinned (.plain (OpenSpec.upto hfsRefusedSpec)) hfsRefusedUptoCard

/-- THE SECOND FORM's CARD OF 'valiselaw17.HfsDoes'. -/
def hfsDoesUptoCard : Claim7 := { stood := { row := hfsDoesUptoRow, standIns := [], harness := (true, "39bbdaf4d5b885042b952e698722333c45aad29b6e62010b5321acabbe307156"), looks := true }, kinds := [], alts := [], laidByText := true, laidKinds := [.data, .pinned], laidTests := true, laidLooks := .later }
def HfsDoesUptoCardSaid : Prop := Claim7.holds Tryz.pinned (.plain (OpenSpec.upto hfsDoesSpec)) hfsDoesUptoCard

/-- THE SECOND FORM's CARD OF 'valiselaw17.HfsSound'. -/
def hfsSoundUptoCard : Claim7 := { stood := { row := hfsSoundUptoRow, standIns := [], harness := (true, "39bbdaf4d5b885042b952e698722333c45aad29b6e62010b5321acabbe307156"), looks := true }, kinds := [], alts := [], laidByText := true, laidKinds := [.data, .pinned], laidTests := true, laidLooks := .later }
def HfsSoundUptoCardSaid : Prop := Claim7.holds Tryz.pinned (.plain (OpenSpec.upto hfsSoundSpec)) hfsSoundUptoCard

/-- THE SECOND FORM's CARD OF 'valiselaw17.HfsConfined'. -/
def hfsConfinedUptoCard : Claim7 := { stood := { row := hfsConfinedUptoRow, standIns := [], harness := (true, "39bbdaf4d5b885042b952e698722333c45aad29b6e62010b5321acabbe307156"), looks := true }, kinds := [], alts := [], laidByText := true, laidKinds := [.data, .pinned], laidTests := true, laidLooks := .later }
def HfsConfinedUptoCardSaid : Prop := Claim7.holds Tryz.pinned (.plain (OpenSpec.upto hfsConfinedSpec)) hfsConfinedUptoCard
end Rows
end Go.Proofs.YtkiedlmhocglhaaGreatDoor
