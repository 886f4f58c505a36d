/-
  DERIVED. GIVEN WITH THE SEED: THE CARDS: each row of YtpopaehdmeejpaaDoorRows.lean that lists a variable, with what it lists TIED to the program's text (the seventh form; the later family's looks); each row that meets fmt, with fmt's text TOLD by the authors' own Lean function (tested against real Go, not proved from fmt's source: count such statements apart). THE CARD IS WHAT COUNTS. Prove the row's statement (the work); the ties are given (YtpopaehdmeejpaaDoorTie.lean); close each card by the builder's one call (the guide's Derived/Test/ToyasCard.lean, 'card_holds'). Laid BY PROGRAM, IN A SANDBOX (cutbox-door.mjs). By AI agents, Wed Nov 11 2026. No macro, syntax, notation, axiom, sorry.
-/
import Derived.Test.YtpopaehdmeejpaaDoorRows
import GoSem.ClaimSeven
namespace Go.Proofs.YtpopaehdmeejpaaDoor
namespace Rows

/-- THE TIED CARD OF 'groovelaw18.ChargeSymmetry'. -/
def chargeSymmetryCard : Claim7 := { stood := { row := chargeSymmetryRow, standIns := [], harness := (true, "95ce6e7e1b196fdc89a31c68f5f79cb0812a57372496395c183e94835541a9a0"), looks := false }, kinds := [], alts := [], laidByText := true, laidKinds := [.data, .pinned], laidTests := true, laidLooks := .later }
def ChargeSymmetryCardSaid : Prop := Claim7.holds Tryd.pinned (.plain (OpenSpec.ofChange chargeSymmetrySpec)) chargeSymmetryCard

/-- THE SECOND FORM's CARD OF 'groovelaw18.ChargeSymmetry'. -/
def chargeSymmetryUptoCard : Claim7 := { stood := { row := chargeSymmetryUptoRow, standIns := [], harness := (true, "95ce6e7e1b196fdc89a31c68f5f79cb0812a57372496395c183e94835541a9a0"), looks := false }, kinds := [], alts := [], laidByText := true, laidKinds := [.data, .pinned], laidTests := true, laidLooks := .later }
def ChargeSymmetryUptoCardSaid : Prop := Claim7.holds Tryd.pinned (.plain (OpenSpec.upto chargeSymmetrySpec)) chargeSymmetryUptoCard
end Rows
end Go.Proofs.YtpopaehdmeejpaaDoor
