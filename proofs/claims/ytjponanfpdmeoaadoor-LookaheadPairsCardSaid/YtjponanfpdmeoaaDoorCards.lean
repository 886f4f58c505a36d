/-
  DERIVED. GIVEN WITH THE SEED: THE CARDS: each row of YtjponanfpdmeoaaDoorRows.lean that lists a variable, with what it lists TIED to the program's text (the seventh form; the later family's looks); each row that meets fmt, with fmt's text TOLD by the authors' own Lean function (tested against real Go, not proved from fmt's source: count such statements apart). THE CARD IS WHAT COUNTS. Prove the row's statement (the work); the ties are given (YtjponanfpdmeoaaDoorTie.lean); close each card by the builder's one call (the guide's Derived/Test/ToyasCard.lean, 'card_holds'). Laid BY PROGRAM, IN A SANDBOX (cutbox-door.mjs). By AI agents, Wed Nov 11 2026. No macro, syntax, notation, axiom, sorry.
-/
import Derived.Test.YtjponanfpdmeoaaDoorRows
import GoSem.ClaimSeven
namespace Go.Proofs.YtjponanfpdmeoaaDoor
namespace Rows

/-- THE TIED CARD OF 'groovelaw32.LookaheadInverse'. -/
def lookaheadInverseCard : Claim7 := { stood := { row := lookaheadInverseRow, standIns := [], harness := (true, "88b9d827d5fc8a19ca1013ef6cc4f75411b637d28aee289b65e4b04ef2f0e592"), looks := false }, kinds := [], alts := [], laidByText := true, laidKinds := [.data, .data, .data], laidTests := true, laidLooks := .later }
def LookaheadInverseCardSaid : Prop := Claim7.holds Tryd.pinned (.plain (OpenSpec.ofChange lookaheadInverseSpec)) lookaheadInverseCard

/-- THE TIED CARD OF 'groovelaw32.LookaheadPairs'. -/
def lookaheadPairsCard : Claim7 := { stood := { row := lookaheadPairsRow, standIns := [], harness := (true, "88b9d827d5fc8a19ca1013ef6cc4f75411b637d28aee289b65e4b04ef2f0e592"), looks := false }, kinds := [], alts := [], laidByText := true, laidKinds := [.data, .data, .data], laidTests := true, laidLooks := .later }
def LookaheadPairsCardSaid : Prop := Claim7.holds Tryd.pinned (.plain (OpenSpec.ofChange lookaheadPairsSpec)) lookaheadPairsCard

/-- THE SECOND FORM's CARD OF 'groovelaw32.LookaheadInverse'. -/
def lookaheadInverseUptoCard : Claim7 := { stood := { row := lookaheadInverseUptoRow, standIns := [], harness := (true, "88b9d827d5fc8a19ca1013ef6cc4f75411b637d28aee289b65e4b04ef2f0e592"), looks := false }, kinds := [], alts := [], laidByText := true, laidKinds := [.data, .data, .data], laidTests := true, laidLooks := .later }
def LookaheadInverseUptoCardSaid : Prop := Claim7.holds Tryd.pinned (.plain (OpenSpec.upto lookaheadInverseSpec)) lookaheadInverseUptoCard

/-- THE SECOND FORM's CARD OF 'groovelaw32.LookaheadPairs'. -/
def lookaheadPairsUptoCard : Claim7 := { stood := { row := lookaheadPairsUptoRow, standIns := [], harness := (true, "88b9d827d5fc8a19ca1013ef6cc4f75411b637d28aee289b65e4b04ef2f0e592"), looks := false }, kinds := [], alts := [], laidByText := true, laidKinds := [.data, .data, .data], laidTests := true, laidLooks := .later }
def LookaheadPairsUptoCardSaid : Prop := Claim7.holds Tryd.pinned (.plain (OpenSpec.upto lookaheadPairsSpec)) lookaheadPairsUptoCard
end Rows
end Go.Proofs.YtjponanfpdmeoaaDoor
