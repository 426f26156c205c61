/-
  DERIVED. GIVEN WITH THE SEED: THE CARDS: each row of YtfececghhgeapaaGreatDoorRows.lean that lists a variable, with what it lists TIED to the program's text (the seventh form; the later family's looks); each row that meets fmt, with fmt's text TOLD by the authors' own Lean function (tested against real Go, not proved from fmt's source: count such statements apart). THE CARD IS WHAT COUNTS. Prove the row's statement (the work); the ties are given (YtfececghhgeapaaGreatDoorTie.lean); close each card by the builder's one call (the guide's Derived/Test/ToyasCard.lean, 'card_holds'). Laid BY PROGRAM, IN A SANDBOX (cutbox-door.mjs). By AI agents, Wed Nov 11 2026. No macro, syntax, notation, axiom, sorry.
-/
import Derived.Test.YtfececghhgeapaaGreatDoorRows
import GoSem.ClaimSeven
namespace Go.Proofs.YtfececghhgeapaaGreatDoor
namespace Rows

/-- THE TIED CARD OF 'valiselaw19.ResolveWalks'. -/
def resolveWalksCard : Claim7 := { stood := { row := resolveWalksRow, standIns := [], harness := (true, "af0688e7b9c4aaa82dabe87c96e422b37f0d3a077efccb348d2f406e0d5f8390"), looks := true }, kinds := [], alts := [], laidByText := true, laidKinds := [.handle], laidTests := true, laidLooks := .later }
def ResolveWalksCardSaid : Prop := Claim7.holds Tryz.pinned (.plain (OpenSpec.ofChange resolveWalksSpec)) resolveWalksCard

/-- THE TIED CARD OF 'valiselaw19.ResolveCalls'. -/
def resolveCallsCard : Claim7 := { stood := { row := resolveCallsRow, standIns := [], harness := (true, "af0688e7b9c4aaa82dabe87c96e422b37f0d3a077efccb348d2f406e0d5f8390"), looks := true }, kinds := [], alts := [], laidByText := true, laidKinds := [.handle], laidTests := true, laidLooks := .later }
def ResolveCallsCardSaid : Prop := Claim7.holds Tryz.pinned (.plain (OpenSpec.ofChange resolveCallsSpec)) resolveCallsCard

/-- THE SECOND FORM's CARD OF 'valiselaw19.ResolveWalks'. -/
def resolveWalksUptoCard : Claim7 := { stood := { row := resolveWalksUptoRow, standIns := [], harness := (true, "af0688e7b9c4aaa82dabe87c96e422b37f0d3a077efccb348d2f406e0d5f8390"), looks := true }, kinds := [], alts := [], laidByText := true, laidKinds := [.handle], laidTests := true, laidLooks := .later }
def ResolveWalksUptoCardSaid : Prop := Claim7.holds Tryz.pinned (.plain (OpenSpec.upto resolveWalksSpec)) resolveWalksUptoCard

/-- THE SECOND FORM's CARD OF 'valiselaw19.ResolveCalls'. -/
def resolveCallsUptoCard : Claim7 := { stood := { row := resolveCallsUptoRow, standIns := [], harness := (true, "af0688e7b9c4aaa82dabe87c96e422b37f0d3a077efccb348d2f406e0d5f8390"), looks := true }, kinds := [], alts := [], laidByText := true, laidKinds := [.handle], laidTests := true, laidLooks := .later }
def ResolveCallsUptoCardSaid : Prop := Claim7.holds Tryz.pinned (.plain (OpenSpec.upto resolveCallsSpec)) resolveCallsUptoCard
end Rows
end Go.Proofs.YtfececghhgeapaaGreatDoor
