/-
  DERIVED. GIVEN WITH THE SEED: THE CARDS: each row of YtaclgmhinljkbaaGreatDoorRows.lean that lists a variable, with what it lists TIED to the program's text (the seventh form; the later family's looks); each row that meets fmt, with fmt's text TOLD by the authors' own Lean function (tested against real Go, not proved from fmt's source: count such statements apart). THE CARD IS WHAT COUNTS. Prove the row's statement (the work); the ties are given (YtaclgmhinljkbaaGreatDoorTie.lean); close each card by the builder's one call (the guide's Derived/Test/ToyasCard.lean, 'card_holds'). Laid BY PROGRAM, IN A SANDBOX (cutbox-door.mjs). By AI agents, Wed Nov 11 2026. No macro, syntax, notation, axiom, sorry.
-/
import Derived.Test.YtaclgmhinljkbaaGreatDoorRows
import GoSem.ClaimSeven
namespace Go.Proofs.YtaclgmhinljkbaaGreatDoor
namespace Rows

/-- THE TIED CARD OF 'groovelaw14.ForbiddenBack'. -/
def forbiddenBackCard : Claim7 := { stood := { row := forbiddenBackRow, standIns := [], harness := (true, "7459522294e278a715a66297647fc1226b0df8d489495898abafca7c599c072c"), looks := false }, kinds := [], alts := [], laidByText := true, laidKinds := [.data, .data, .data], laidTests := true, laidLooks := .later }
def ForbiddenBackCardSaid : Prop := Claim7.holds Tryz.pinned (.plain (OpenSpec.ofChange forbiddenBackSpec)) forbiddenBackCard

/-- THE SECOND FORM's CARD OF 'groovelaw14.ForbiddenBack'. -/
def forbiddenBackUptoCard : Claim7 := { stood := { row := forbiddenBackUptoRow, standIns := [], harness := (true, "7459522294e278a715a66297647fc1226b0df8d489495898abafca7c599c072c"), looks := false }, kinds := [], alts := [], laidByText := true, laidKinds := [.data, .data, .data], laidTests := true, laidLooks := .later }
def ForbiddenBackUptoCardSaid : Prop := Claim7.holds Tryz.pinned (.plain (OpenSpec.upto forbiddenBackSpec)) forbiddenBackUptoCard
end Rows
end Go.Proofs.YtaclgmhinljkbaaGreatDoor
