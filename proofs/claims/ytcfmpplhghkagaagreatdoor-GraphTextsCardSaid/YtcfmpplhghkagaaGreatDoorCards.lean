/-
  DERIVED. GIVEN WITH THE SEED: THE CARDS: each row of YtcfmpplhghkagaaGreatDoorRows.lean that lists a variable, with what it lists TIED to the program's text (the seventh form; the later family's looks); each row that meets fmt, with fmt's text TOLD by the authors' own Lean function (tested against real Go, not proved from fmt's source: count such statements apart). THE CARD IS WHAT COUNTS. Prove the row's statement (the work); the ties are given (YtcfmpplhghkagaaGreatDoorTie.lean); close each card by the builder's one call (the guide's Derived/Test/ToyasCard.lean, 'card_holds'). Laid BY PROGRAM, IN A SANDBOX (cutbox-door.mjs). By AI agents, Wed Nov 11 2026. No macro, syntax, notation, axiom, sorry.
-/
import Derived.Test.YtcfmpplhghkagaaGreatDoorRows
import GoSem.ClaimSeven
namespace Go.Proofs.YtcfmpplhghkagaaGreatDoor
namespace Rows

/-- THE TIED CARD OF 'groovelaw09.GraphTexts'. -/
def graphTextsCard : Claim7 := { stood := { row := graphTextsRow, standIns := [], harness := (true, "a7da2fed3f5780cba46329a032af72f8c4d1d3c091637b31191841a7b9a1df49"), looks := true }, kinds := [], alts := [], laidByText := true, laidKinds := [.data, .data, .data, .data, .sentinel, .sentinel, .pinned], laidTests := true, laidLooks := .later }
def GraphTextsCardSaid : Prop := Claim7.holds Tryz.pinned (.plain (OpenSpec.ofChange graphTextsSpec)) graphTextsCard

/-- THE SECOND FORM's CARD OF 'groovelaw09.GraphTexts'. -/
def graphTextsUptoCard : Claim7 := { stood := { row := graphTextsUptoRow, standIns := [], harness := (true, "a7da2fed3f5780cba46329a032af72f8c4d1d3c091637b31191841a7b9a1df49"), looks := true }, kinds := [], alts := [], laidByText := true, laidKinds := [.data, .data, .data, .data, .sentinel, .sentinel, .pinned], laidTests := true, laidLooks := .later }
def GraphTextsUptoCardSaid : Prop := Claim7.holds Tryz.pinned (.plain (OpenSpec.upto graphTextsSpec)) graphTextsUptoCard
end Rows
end Go.Proofs.YtcfmpplhghkagaaGreatDoor
