/-
  DERIVED. GIVEN WITH THE SEED: THE CARDS: each row of YtjpilmedlecdhaaGreatDoorRows.lean that lists a variable, with what it lists TIED to the program's text (the seventh form; the later family's looks); each row that meets fmt, with fmt's text TOLD by the authors' own Lean function (tested against real Go, not proved from fmt's source: count such statements apart). THE CARD IS WHAT COUNTS. Prove the row's statement (the work); the ties are given (YtjpilmedlecdhaaGreatDoorTie.lean); close each card by the builder's one call (the guide's Derived/Test/ToyasCard.lean, 'card_holds'). Laid BY PROGRAM, IN A SANDBOX (cutbox-door.mjs). By AI agents, Wed Nov 11 2026. No macro, syntax, notation, axiom, sorry.
-/
import Derived.Test.YtjpilmedlecdhaaGreatDoorRows
import GoSem.ClaimSeven
namespace Go.Proofs.YtjpilmedlecdhaaGreatDoor
namespace Rows

/-- THE TIED CARD OF 'groovelaw32.LookaheadTable'. -/
def lookaheadTableCard : Claim7 := { stood := { row := lookaheadTableRow, standIns := [], harness := (true, "66c2bec3119a069450d4668a44959f6e3819dda44ee4f165074c73fc7ac162ea"), looks := false }, kinds := [], alts := [], laidByText := true, laidKinds := [.data, .data, .data], laidTests := true, laidLooks := .later }
def LookaheadTableCardSaid : Prop := Claim7.holds Tryz.pinned (.plain (OpenSpec.ofChange lookaheadTableSpec)) lookaheadTableCard

/-- THE TIED CARD OF 'groovelaw32.LookaheadExtended'. -/
def lookaheadExtendedCard : Claim7 := { stood := { row := lookaheadExtendedRow, standIns := [], harness := (true, "66c2bec3119a069450d4668a44959f6e3819dda44ee4f165074c73fc7ac162ea"), looks := false }, kinds := [], alts := [], laidByText := true, laidKinds := [.data, .data, .data], laidTests := true, laidLooks := .later }
def LookaheadExtendedCardSaid : Prop := Claim7.holds Tryz.pinned (.plain (OpenSpec.ofChange lookaheadExtendedSpec)) lookaheadExtendedCard

/-- THE SECOND FORM's CARD OF 'groovelaw32.LookaheadTable'. -/
def lookaheadTableUptoCard : Claim7 := { stood := { row := lookaheadTableUptoRow, standIns := [], harness := (true, "66c2bec3119a069450d4668a44959f6e3819dda44ee4f165074c73fc7ac162ea"), looks := false }, kinds := [], alts := [], laidByText := true, laidKinds := [.data, .data, .data], laidTests := true, laidLooks := .later }
def LookaheadTableUptoCardSaid : Prop := Claim7.holds Tryz.pinned (.plain (OpenSpec.upto lookaheadTableSpec)) lookaheadTableUptoCard

/-- THE SECOND FORM's CARD OF 'groovelaw32.LookaheadExtended'. -/
def lookaheadExtendedUptoCard : Claim7 := { stood := { row := lookaheadExtendedUptoRow, standIns := [], harness := (true, "66c2bec3119a069450d4668a44959f6e3819dda44ee4f165074c73fc7ac162ea"), looks := false }, kinds := [], alts := [], laidByText := true, laidKinds := [.data, .data, .data], laidTests := true, laidLooks := .later }
def LookaheadExtendedUptoCardSaid : Prop := Claim7.holds Tryz.pinned (.plain (OpenSpec.upto lookaheadExtendedSpec)) lookaheadExtendedUptoCard
end Rows
end Go.Proofs.YtjpilmedlecdhaaGreatDoor
