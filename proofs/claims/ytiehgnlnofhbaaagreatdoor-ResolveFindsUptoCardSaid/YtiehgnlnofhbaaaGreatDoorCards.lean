/-
  DERIVED. GIVEN WITH THE SEED: THE CARDS: each row of YtiehgnlnofhbaaaGreatDoorRows.lean that lists a variable, with what it lists TIED to the program's text (the seventh form; the later family's looks); each row that meets fmt, with fmt's text TOLD by the authors' own Lean function (tested against real Go, not proved from fmt's source: count such statements apart). THE CARD IS WHAT COUNTS. Prove the row's statement (the work); the ties are given (YtiehgnlnofhbaaaGreatDoorTie.lean); close each card by the builder's one call (the guide's Derived/Test/ToyasCard.lean, 'card_holds'). Laid BY PROGRAM, IN A SANDBOX (cutbox-door.mjs). By AI agents, Wed Nov 11 2026. No macro, syntax, notation, axiom, sorry.
-/
import Derived.Test.YtiehgnlnofhbaaaGreatDoorRows
import GoSem.ClaimSeven
namespace Go.Proofs.YtiehgnlnofhbaaaGreatDoor
namespace Rows

/-- THE TIED CARD OF 'valiselaw19.ResolveHolds'. -/
def resolveHoldsCard : Claim7 := { stood := { row := resolveHoldsRow, standIns := [], harness := (true, "e6f90754c2c6ebabac98e2ee78d814b5e7e7e257ab7e83004347d90ab5c4c1d3"), looks := true }, kinds := [], alts := [], laidByText := true, laidKinds := [.handle], laidTests := true, laidLooks := .later }
def ResolveHoldsCardSaid : Prop := Claim7.holds Tryz.pinned (.plain (OpenSpec.ofChange resolveHoldsSpec)) resolveHoldsCard

/-- THE TIED CARD OF 'valiselaw19.ResolveUnder'. -/
def resolveUnderCard : Claim7 := { stood := { row := resolveUnderRow, standIns := [], harness := (true, "e6f90754c2c6ebabac98e2ee78d814b5e7e7e257ab7e83004347d90ab5c4c1d3"), looks := true }, kinds := [], alts := [], laidByText := true, laidKinds := [.handle], laidTests := true, laidLooks := .later }
def ResolveUnderCardSaid : Prop := Claim7.holds Tryz.pinned (.plain (OpenSpec.ofChange resolveUnderSpec)) resolveUnderCard

/-- THE TIED CARD OF 'valiselaw19.ResolveFinds'. -/
def resolveFindsCard : Claim7 := { stood := { row := resolveFindsRow, standIns := [], harness := (true, "e6f90754c2c6ebabac98e2ee78d814b5e7e7e257ab7e83004347d90ab5c4c1d3"), looks := true }, kinds := [], alts := [], laidByText := true, laidKinds := [.handle], laidTests := true, laidLooks := .later }
def ResolveFindsCardSaid : Prop := Claim7.holds Tryz.pinned (.plain (OpenSpec.ofChange resolveFindsSpec)) resolveFindsCard

/-- THE TIED CARD OF 'valiselaw19.ResolveErrors'. -/
def resolveErrorsCard : Claim7 := { stood := { row := resolveErrorsRow, standIns := [], harness := (true, "e6f90754c2c6ebabac98e2ee78d814b5e7e7e257ab7e83004347d90ab5c4c1d3"), looks := true }, kinds := [], alts := [], laidByText := true, laidKinds := [.handle], laidTests := true, laidLooks := .later }
def ResolveErrorsCardSaid : Prop := Claim7.holds Tryz.pinned (.plain (OpenSpec.ofChange resolveErrorsSpec)) resolveErrorsCard

/-- THE SECOND FORM's CARD OF 'valiselaw19.ResolveHolds'. -/
def resolveHoldsUptoCard : Claim7 := { stood := { row := resolveHoldsUptoRow, standIns := [], harness := (true, "e6f90754c2c6ebabac98e2ee78d814b5e7e7e257ab7e83004347d90ab5c4c1d3"), looks := true }, kinds := [], alts := [], laidByText := true, laidKinds := [.handle], laidTests := true, laidLooks := .later }
def ResolveHoldsUptoCardSaid : Prop := Claim7.holds Tryz.pinned (.plain (OpenSpec.upto resolveHoldsSpec)) resolveHoldsUptoCard

/-- THE SECOND FORM's CARD OF 'valiselaw19.ResolveUnder'. -/
def resolveUnderUptoCard : Claim7 := { stood := { row := resolveUnderUptoRow, standIns := [], harness := (true, "e6f90754c2c6ebabac98e2ee78d814b5e7e7e257ab7e83004347d90ab5c4c1d3"), looks := true }, kinds := [], alts := [], laidByText := true, laidKinds := [.handle], laidTests := true, laidLooks := .later }
def ResolveUnderUptoCardSaid : Prop := Claim7.holds Tryz.pinned (.plain (OpenSpec.upto resolveUnderSpec)) resolveUnderUptoCard

/-- THE SECOND FORM's CARD OF 'valiselaw19.ResolveFinds'. -/
def resolveFindsUptoCard : Claim7 := { stood := { row := resolveFindsUptoRow, standIns := [], harness := (true, "e6f90754c2c6ebabac98e2ee78d814b5e7e7e257ab7e83004347d90ab5c4c1d3"), looks := true }, kinds := [], alts := [], laidByText := true, laidKinds := [.handle], laidTests := true, laidLooks := .later }
def ResolveFindsUptoCardSaid : Prop := Claim7.holds Tryz.pinned (.plain (OpenSpec.upto resolveFindsSpec)) resolveFindsUptoCard

/-- THE SECOND FORM's CARD OF 'valiselaw19.ResolveErrors'. -/
def resolveErrorsUptoCard : Claim7 := { stood := { row := resolveErrorsUptoRow, standIns := [], harness := (true, "e6f90754c2c6ebabac98e2ee78d814b5e7e7e257ab7e83004347d90ab5c4c1d3"), looks := true }, kinds := [], alts := [], laidByText := true, laidKinds := [.handle], laidTests := true, laidLooks := .later }
def ResolveErrorsUptoCardSaid : Prop := Claim7.holds Tryz.pinned (.plain (OpenSpec.upto resolveErrorsSpec)) resolveErrorsUptoCard
end Rows
end Go.Proofs.YtiehgnlnofhbaaaGreatDoor
