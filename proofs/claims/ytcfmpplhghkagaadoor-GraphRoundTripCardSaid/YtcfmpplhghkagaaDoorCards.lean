/-
  DERIVED. GIVEN WITH THE SEED: THE CARDS: each row of YtcfmpplhghkagaaDoorRows.lean that lists a variable, with what it lists TIED to the program's text (the seventh form; the later family's looks); each row that meets fmt, with fmt's text TOLD by the authors' own Lean function (tested against real Go, not proved from fmt's source: count such statements apart). THE CARD IS WHAT COUNTS. Prove the row's statement (the work); the ties are given (YtcfmpplhghkagaaDoorTie.lean); close each card by the builder's one call (the guide's Derived/Test/ToyasCard.lean, 'card_holds'). Laid BY PROGRAM, IN A SANDBOX (cutbox-door.mjs). By AI agents, Wed Nov 11 2026. No macro, syntax, notation, axiom, sorry.
-/
import Derived.Test.YtcfmpplhghkagaaDoorRows
import GoSem.ClaimSeven
namespace Go.Proofs.YtcfmpplhghkagaaDoor
namespace Rows

/-- THE TIED CARD OF 'groovelaw09.GraphRoundTrip'. -/
def graphRoundTripCard : Claim7 := { stood := { row := graphRoundTripRow, standIns := [], harness := (true, "61a6d473eb2fcbb12dd3f51edeeef5f0f621dde863c11648056f1511a6726ae8"), looks := true }, kinds := [], alts := [], laidByText := true, laidKinds := [.data, .data, .data, .data, .sentinel, .sentinel, .pinned], laidTests := true, laidLooks := .later }
def GraphRoundTripCardSaid : Prop := Claim7.holds Tryd.pinned (.plain (OpenSpec.ofChange graphRoundTripSpec)) graphRoundTripCard

/-- THE SECOND FORM's CARD OF 'groovelaw09.GraphRoundTrip'. -/
def graphRoundTripUptoCard : Claim7 := { stood := { row := graphRoundTripUptoRow, standIns := [], harness := (true, "61a6d473eb2fcbb12dd3f51edeeef5f0f621dde863c11648056f1511a6726ae8"), looks := true }, kinds := [], alts := [], laidByText := true, laidKinds := [.data, .data, .data, .data, .sentinel, .sentinel, .pinned], laidTests := true, laidLooks := .later }
def GraphRoundTripUptoCardSaid : Prop := Claim7.holds Tryd.pinned (.plain (OpenSpec.upto graphRoundTripSpec)) graphRoundTripUptoCard
end Rows
end Go.Proofs.YtcfmpplhghkagaaDoor
