/-
  DERIVED. GIVEN WITH THE SEED: THE CARDS: each row of YtkknkbdkokdbfaaDoorRows.lean that lists a variable, with what it lists TIED to the program's text (the seventh form; the later family's looks); each row that meets fmt, with fmt's text TOLD by the authors' own Lean function (tested against real Go, not proved from fmt's source: count such statements apart). THE CARD IS WHAT COUNTS. Prove the row's statement (the work); the ties are given (YtkknkbdkokdbfaaDoorTie.lean); close each card by the builder's one call (the guide's Derived/Test/ToyasCard.lean, 'card_holds'). Laid BY PROGRAM, IN A SANDBOX (cutbox-door.mjs). By AI agents, Wed Nov 11 2026. No macro, syntax, notation, axiom, sorry.
-/
import Derived.Test.YtkknkbdkokdbfaaDoorRows
import GoSem.ClaimSeven
namespace Go.Proofs.YtkknkbdkokdbfaaDoor
namespace Rows

/-- THE TIED CARD OF 'groovelaw09.GraphChecks'. -/
def graphChecksCard : Claim7 := { stood := { row := graphChecksRow, standIns := [], harness := (true, "a3333603a12f9926a52cae095611c96b2fb028b413524cd685fbf8523daa78cc"), looks := false }, kinds := [], alts := [], laidByText := true, laidKinds := [.data, .data, .data], laidTests := true, laidLooks := .later }
def GraphChecksCardSaid : Prop := Claim7.holds Tryd.pinned (.plain (OpenSpec.ofChange graphChecksSpec)) graphChecksCard

/-- THE TIED CARD OF 'groovelaw09.GraphMakes'. -/
def graphMakesCard : Claim7 := { stood := { row := graphMakesRow, standIns := [], harness := (true, "a3333603a12f9926a52cae095611c96b2fb028b413524cd685fbf8523daa78cc"), looks := false }, kinds := [], alts := [], laidByText := true, laidKinds := [.data, .data, .data], laidTests := true, laidLooks := .later }
def GraphMakesCardSaid : Prop := Claim7.holds Tryd.pinned (.plain (OpenSpec.ofChange graphMakesSpec)) graphMakesCard

/-- THE TIED CARD OF 'groovelaw09.GraphReads'. -/
def graphReadsCard : Claim7 := { stood := { row := graphReadsRow, standIns := [], harness := (true, "a3333603a12f9926a52cae095611c96b2fb028b413524cd685fbf8523daa78cc"), looks := false }, kinds := [], alts := [], laidByText := true, laidKinds := [.data, .data, .data], laidTests := true, laidLooks := .later }
def GraphReadsCardSaid : Prop := Claim7.holds Tryd.pinned (.plain (OpenSpec.ofChange graphReadsSpec)) graphReadsCard

/-- THE TIED CARD OF 'groovelaw09.GraphParts'. -/
def graphPartsCard : Claim7 := { stood := { row := graphPartsRow, standIns := [], harness := (true, "a3333603a12f9926a52cae095611c96b2fb028b413524cd685fbf8523daa78cc"), looks := false }, kinds := [], alts := [], laidByText := true, laidKinds := [.data, .data, .data], laidTests := true, laidLooks := .later }
def GraphPartsCardSaid : Prop := Claim7.holds Tryd.pinned (.plain (OpenSpec.ofChange graphPartsSpec)) graphPartsCard

/-- THE TIED CARD OF 'groovelaw09.GraphReverses'. -/
def graphReversesCard : Claim7 := { stood := { row := graphReversesRow, standIns := [], harness := (true, "a3333603a12f9926a52cae095611c96b2fb028b413524cd685fbf8523daa78cc"), looks := false }, kinds := [], alts := [], laidByText := true, laidKinds := [.data, .data, .data], laidTests := true, laidLooks := .later }
def GraphReversesCardSaid : Prop := Claim7.holds Tryd.pinned (.plain (OpenSpec.ofChange graphReversesSpec)) graphReversesCard

/-- THE TIED CARD OF 'groovelaw09.GraphEssential'. -/
def graphEssentialCard : Claim7 := { stood := { row := graphEssentialRow, standIns := [], harness := (true, "a3333603a12f9926a52cae095611c96b2fb028b413524cd685fbf8523daa78cc"), looks := false }, kinds := [], alts := [], laidByText := true, laidKinds := [.data, .data, .data], laidTests := true, laidLooks := .later }
def GraphEssentialCardSaid : Prop := Claim7.holds Tryd.pinned (.plain (OpenSpec.ofChange graphEssentialSpec)) graphEssentialCard

/-- THE SECOND FORM's CARD OF 'groovelaw09.GraphChecks'. -/
def graphChecksUptoCard : Claim7 := { stood := { row := graphChecksUptoRow, standIns := [], harness := (true, "a3333603a12f9926a52cae095611c96b2fb028b413524cd685fbf8523daa78cc"), looks := false }, kinds := [], alts := [], laidByText := true, laidKinds := [.data, .data, .data], laidTests := true, laidLooks := .later }
def GraphChecksUptoCardSaid : Prop := Claim7.holds Tryd.pinned (.plain (OpenSpec.upto graphChecksSpec)) graphChecksUptoCard

/-- THE SECOND FORM's CARD OF 'groovelaw09.GraphMakes'. -/
def graphMakesUptoCard : Claim7 := { stood := { row := graphMakesUptoRow, standIns := [], harness := (true, "a3333603a12f9926a52cae095611c96b2fb028b413524cd685fbf8523daa78cc"), looks := false }, kinds := [], alts := [], laidByText := true, laidKinds := [.data, .data, .data], laidTests := true, laidLooks := .later }
def GraphMakesUptoCardSaid : Prop := Claim7.holds Tryd.pinned (.plain (OpenSpec.upto graphMakesSpec)) graphMakesUptoCard

/-- THE SECOND FORM's CARD OF 'groovelaw09.GraphReads'. -/
def graphReadsUptoCard : Claim7 := { stood := { row := graphReadsUptoRow, standIns := [], harness := (true, "a3333603a12f9926a52cae095611c96b2fb028b413524cd685fbf8523daa78cc"), looks := false }, kinds := [], alts := [], laidByText := true, laidKinds := [.data, .data, .data], laidTests := true, laidLooks := .later }
def GraphReadsUptoCardSaid : Prop := Claim7.holds Tryd.pinned (.plain (OpenSpec.upto graphReadsSpec)) graphReadsUptoCard

/-- THE SECOND FORM's CARD OF 'groovelaw09.GraphParts'. -/
def graphPartsUptoCard : Claim7 := { stood := { row := graphPartsUptoRow, standIns := [], harness := (true, "a3333603a12f9926a52cae095611c96b2fb028b413524cd685fbf8523daa78cc"), looks := false }, kinds := [], alts := [], laidByText := true, laidKinds := [.data, .data, .data], laidTests := true, laidLooks := .later }
def GraphPartsUptoCardSaid : Prop := Claim7.holds Tryd.pinned (.plain (OpenSpec.upto graphPartsSpec)) graphPartsUptoCard

/-- THE SECOND FORM's CARD OF 'groovelaw09.GraphReverses'. -/
def graphReversesUptoCard : Claim7 := { stood := { row := graphReversesUptoRow, standIns := [], harness := (true, "a3333603a12f9926a52cae095611c96b2fb028b413524cd685fbf8523daa78cc"), looks := false }, kinds := [], alts := [], laidByText := true, laidKinds := [.data, .data, .data], laidTests := true, laidLooks := .later }
def GraphReversesUptoCardSaid : Prop := Claim7.holds Tryd.pinned (.plain (OpenSpec.upto graphReversesSpec)) graphReversesUptoCard

/-- THE SECOND FORM's CARD OF 'groovelaw09.GraphEssential'. -/
def graphEssentialUptoCard : Claim7 := { stood := { row := graphEssentialUptoRow, standIns := [], harness := (true, "a3333603a12f9926a52cae095611c96b2fb028b413524cd685fbf8523daa78cc"), looks := false }, kinds := [], alts := [], laidByText := true, laidKinds := [.data, .data, .data], laidTests := true, laidLooks := .later }
def GraphEssentialUptoCardSaid : Prop := Claim7.holds Tryd.pinned (.plain (OpenSpec.upto graphEssentialSpec)) graphEssentialUptoCard
end Rows
end Go.Proofs.YtkknkbdkokdbfaaDoor
