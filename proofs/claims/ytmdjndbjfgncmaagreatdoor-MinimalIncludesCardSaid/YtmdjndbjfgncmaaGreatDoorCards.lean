/-
  DERIVED. GIVEN WITH THE SEED: THE CARDS: each row of YtmdjndbjfgncmaaGreatDoorRows.lean that lists a variable, with what it lists TIED to the program's text (the seventh form; the later family's looks); each row that meets fmt, with fmt's text TOLD by the authors' own Lean function (tested against real Go, not proved from fmt's source: count such statements apart). THE CARD IS WHAT COUNTS. Prove the row's statement (the work); the ties are given (YtmdjndbjfgncmaaGreatDoorTie.lean); close each card by the builder's one call (the guide's Derived/Test/ToyasCard.lean, 'card_holds'). Laid BY PROGRAM, IN A SANDBOX (cutbox-door.mjs). By AI agents, Wed Nov 11 2026. No macro, syntax, notation, axiom, sorry.
-/
import Derived.Test.YtmdjndbjfgncmaaGreatDoorRows
import GoSem.ClaimSeven
namespace Go.Proofs.YtmdjndbjfgncmaaGreatDoor
namespace Rows

/-- THE TIED CARD OF 'groovelaw13.MinimalIncludes'. -/
def minimalIncludesCard : Claim7 := { stood := { row := minimalIncludesRow, standIns := [], harness := (true, "9066e2414396544f2578b66a753d1305cb293e67437c82cd8500164941af0ca5"), looks := false }, kinds := [], alts := [], laidByText := true, laidKinds := [.data, .data, .data], laidTests := true, laidLooks := .later }
def MinimalIncludesCardSaid : Prop := Claim7.holds Tryz.pinned (.plain (OpenSpec.ofChange minimalIncludesSpec)) minimalIncludesCard

/-- THE TIED CARD OF 'groovelaw13.MinimalEquals'. -/
def minimalEqualsCard : Claim7 := { stood := { row := minimalEqualsRow, standIns := [], harness := (true, "9066e2414396544f2578b66a753d1305cb293e67437c82cd8500164941af0ca5"), looks := false }, kinds := [], alts := [], laidByText := true, laidKinds := [.data, .data, .data], laidTests := true, laidLooks := .later }
def MinimalEqualsCardSaid : Prop := Claim7.holds Tryz.pinned (.plain (OpenSpec.ofChange minimalEqualsSpec)) minimalEqualsCard

/-- THE TIED CARD OF 'groovelaw13.MinimalCompares'. -/
def minimalComparesCard : Claim7 := { stood := { row := minimalComparesRow, standIns := [], harness := (true, "9066e2414396544f2578b66a753d1305cb293e67437c82cd8500164941af0ca5"), looks := false }, kinds := [], alts := [], laidByText := true, laidKinds := [.data, .data, .data], laidTests := true, laidLooks := .later }
def MinimalComparesCardSaid : Prop := Claim7.holds Tryz.pinned (.plain (OpenSpec.ofChange minimalComparesSpec)) minimalComparesCard

/-- THE SECOND FORM's CARD OF 'groovelaw13.MinimalIncludes'. -/
def minimalIncludesUptoCard : Claim7 := { stood := { row := minimalIncludesUptoRow, standIns := [], harness := (true, "9066e2414396544f2578b66a753d1305cb293e67437c82cd8500164941af0ca5"), looks := false }, kinds := [], alts := [], laidByText := true, laidKinds := [.data, .data, .data], laidTests := true, laidLooks := .later }
def MinimalIncludesUptoCardSaid : Prop := Claim7.holds Tryz.pinned (.plain (OpenSpec.upto minimalIncludesSpec)) minimalIncludesUptoCard

/-- THE SECOND FORM's CARD OF 'groovelaw13.MinimalEquals'. -/
def minimalEqualsUptoCard : Claim7 := { stood := { row := minimalEqualsUptoRow, standIns := [], harness := (true, "9066e2414396544f2578b66a753d1305cb293e67437c82cd8500164941af0ca5"), looks := false }, kinds := [], alts := [], laidByText := true, laidKinds := [.data, .data, .data], laidTests := true, laidLooks := .later }
def MinimalEqualsUptoCardSaid : Prop := Claim7.holds Tryz.pinned (.plain (OpenSpec.upto minimalEqualsSpec)) minimalEqualsUptoCard

/-- THE SECOND FORM's CARD OF 'groovelaw13.MinimalCompares'. -/
def minimalComparesUptoCard : Claim7 := { stood := { row := minimalComparesUptoRow, standIns := [], harness := (true, "9066e2414396544f2578b66a753d1305cb293e67437c82cd8500164941af0ca5"), looks := false }, kinds := [], alts := [], laidByText := true, laidKinds := [.data, .data, .data], laidTests := true, laidLooks := .later }
def MinimalComparesUptoCardSaid : Prop := Claim7.holds Tryz.pinned (.plain (OpenSpec.upto minimalComparesSpec)) minimalComparesUptoCard
end Rows
end Go.Proofs.YtmdjndbjfgncmaaGreatDoor
