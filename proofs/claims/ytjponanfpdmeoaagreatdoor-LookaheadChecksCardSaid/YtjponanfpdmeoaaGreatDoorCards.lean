/-
  DERIVED. GIVEN WITH THE SEED: THE CARDS: each row of YtjponanfpdmeoaaGreatDoorRows.lean that lists a variable, with what it lists TIED to the program's text (the seventh form; the later family's looks); each row that meets fmt, with fmt's text TOLD by the authors' own Lean function (tested against real Go, not proved from fmt's source: count such statements apart). THE CARD IS WHAT COUNTS. Prove the row's statement (the work); the ties are given (YtjponanfpdmeoaaGreatDoorTie.lean); close each card by the builder's one call (the guide's Derived/Test/ToyasCard.lean, 'card_holds'). Laid BY PROGRAM, IN A SANDBOX (cutbox-door.mjs). By AI agents, Wed Nov 11 2026. No macro, syntax, notation, axiom, sorry.
-/
import Derived.Test.YtjponanfpdmeoaaGreatDoorRows
import GoSem.ClaimSeven
namespace Go.Proofs.YtjponanfpdmeoaaGreatDoor
namespace Rows

/-- THE TIED CARD OF 'groovelaw32.LookaheadChecks'. -/
def lookaheadChecksCard : Claim7 := { stood := { row := lookaheadChecksRow, standIns := [], harness := (true, "d4d391cd2c4666889f15d3e6279087649d6edf73a58153a33deb6c04c7982fd0"), looks := false }, kinds := [], alts := [], laidByText := true, laidKinds := [.data, .data, .data], laidTests := true, laidLooks := .later }
def LookaheadChecksCardSaid : Prop := Claim7.holds Tryz.pinned (.plain (OpenSpec.ofChange lookaheadChecksSpec)) lookaheadChecksCard

/-- THE SECOND FORM's CARD OF 'groovelaw32.LookaheadChecks'. -/
def lookaheadChecksUptoCard : Claim7 := { stood := { row := lookaheadChecksUptoRow, standIns := [], harness := (true, "d4d391cd2c4666889f15d3e6279087649d6edf73a58153a33deb6c04c7982fd0"), looks := false }, kinds := [], alts := [], laidByText := true, laidKinds := [.data, .data, .data], laidTests := true, laidLooks := .later }
def LookaheadChecksUptoCardSaid : Prop := Claim7.holds Tryz.pinned (.plain (OpenSpec.upto lookaheadChecksSpec)) lookaheadChecksUptoCard
end Rows
end Go.Proofs.YtjponanfpdmeoaaGreatDoor
