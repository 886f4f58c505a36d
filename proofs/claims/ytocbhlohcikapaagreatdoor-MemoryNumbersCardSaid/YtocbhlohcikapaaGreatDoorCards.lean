/-
  DERIVED. GIVEN WITH THE SEED: THE CARDS: each row of YtocbhlohcikapaaGreatDoorRows.lean that lists a variable, with what it lists TIED to the program's text (the seventh form; the later family's looks); each row that meets fmt, with fmt's text TOLD by the authors' own Lean function (tested against real Go, not proved from fmt's source: count such statements apart). THE CARD IS WHAT COUNTS. Prove the row's statement (the work); the ties are given (YtocbhlohcikapaaGreatDoorTie.lean); close each card by the builder's one call (the guide's Derived/Test/ToyasCard.lean, 'card_holds'). Laid BY PROGRAM, IN A SANDBOX (cutbox-door.mjs). By AI agents, Wed Nov 11 2026. No macro, syntax, notation, axiom, sorry.
-/
import Derived.Test.YtocbhlohcikapaaGreatDoorRows
import GoSem.ClaimSeven
namespace Go.Proofs.YtocbhlohcikapaaGreatDoor
namespace Rows

/-- THE TIED CARD OF 'groovelaw13.MinimalCompares'. -/
def minimalComparesCard : Claim7 := { stood := { row := minimalComparesRow, standIns := [], harness := (true, "4938a7d0f4ade09192cac3b10d38cc7ab66cc9f80a9ba477c357612f6791883d"), looks := false }, kinds := [], alts := [], laidByText := true, laidKinds := [.data, .data, .data], laidTests := true, laidLooks := .later }
def MinimalComparesCardSaid : Prop := Claim7.holds Tryz.pinned (.plain (OpenSpec.ofChange minimalComparesSpec)) minimalComparesCard

/-- THE TIED CARD OF 'groovelaw15.MemoryNumbers'. -/
def memoryNumbersCard : Claim7 := { stood := { row := memoryNumbersRow, standIns := [], harness := (true, "4938a7d0f4ade09192cac3b10d38cc7ab66cc9f80a9ba477c357612f6791883d"), looks := false }, kinds := [], alts := [], laidByText := true, laidKinds := [.data, .data, .data], laidTests := true, laidLooks := .later }
def MemoryNumbersCardSaid : Prop := Claim7.holds Tryz.pinned (.plain (OpenSpec.ofChange memoryNumbersSpec)) memoryNumbersCard

/-- THE TIED CARD OF 'groovelaw15.MemoryShown'. -/
def memoryShownCard : Claim7 := { stood := { row := memoryShownRow, standIns := [], harness := (true, "4938a7d0f4ade09192cac3b10d38cc7ab66cc9f80a9ba477c357612f6791883d"), looks := false }, kinds := [], alts := [], laidByText := true, laidKinds := [.data, .data, .data], laidTests := true, laidLooks := .later }
def MemoryShownCardSaid : Prop := Claim7.holds Tryz.pinned (.plain (OpenSpec.ofChange memoryShownSpec)) memoryShownCard

/-- THE TIED CARD OF 'groovelaw15.MemoryMeaning'. -/
def memoryMeaningCard : Claim7 := { stood := { row := memoryMeaningRow, standIns := [], harness := (true, "4938a7d0f4ade09192cac3b10d38cc7ab66cc9f80a9ba477c357612f6791883d"), looks := false }, kinds := [], alts := [], laidByText := true, laidKinds := [.data, .data, .data], laidTests := true, laidLooks := .later }
def MemoryMeaningCardSaid : Prop := Claim7.holds Tryz.pinned (.plain (OpenSpec.ofChange memoryMeaningSpec)) memoryMeaningCard

/-- THE TIED CARD OF 'groovelaw15.MemoryLocal'. -/
def memoryLocalCard : Claim7 := { stood := { row := memoryLocalRow, standIns := [], harness := (true, "4938a7d0f4ade09192cac3b10d38cc7ab66cc9f80a9ba477c357612f6791883d"), looks := false }, kinds := [], alts := [], laidByText := true, laidKinds := [.data, .data, .data], laidTests := true, laidLooks := .later }
def MemoryLocalCardSaid : Prop := Claim7.holds Tryz.pinned (.plain (OpenSpec.ofChange memoryLocalSpec)) memoryLocalCard

/-- THE TIED CARD OF 'groovelaw15.MemoryReads'. -/
def memoryReadsCard : Claim7 := { stood := { row := memoryReadsRow, standIns := [], harness := (true, "4938a7d0f4ade09192cac3b10d38cc7ab66cc9f80a9ba477c357612f6791883d"), looks := false }, kinds := [], alts := [], laidByText := true, laidKinds := [.data, .data, .data], laidTests := true, laidLooks := .later }
def MemoryReadsCardSaid : Prop := Claim7.holds Tryz.pinned (.plain (OpenSpec.ofChange memoryReadsSpec)) memoryReadsCard

/-- THE TIED CARD OF 'groovelaw15.MemoryFollow'. -/
def memoryFollowCard : Claim7 := { stood := { row := memoryFollowRow, standIns := [], harness := (true, "4938a7d0f4ade09192cac3b10d38cc7ab66cc9f80a9ba477c357612f6791883d"), looks := false }, kinds := [], alts := [], laidByText := true, laidKinds := [.data, .data, .data], laidTests := true, laidLooks := .later }
def MemoryFollowCardSaid : Prop := Claim7.holds Tryz.pinned (.plain (OpenSpec.ofChange memoryFollowSpec)) memoryFollowCard

/-- THE TIED CARD OF 'groovelaw15.MemoryType'. -/
def memoryTypeCard : Claim7 := { stood := { row := memoryTypeRow, standIns := [], harness := (true, "4938a7d0f4ade09192cac3b10d38cc7ab66cc9f80a9ba477c357612f6791883d"), looks := false }, kinds := [], alts := [], laidByText := true, laidKinds := [.data, .data, .data], laidTests := true, laidLooks := .later }
def MemoryTypeCardSaid : Prop := Claim7.holds Tryz.pinned (.plain (OpenSpec.ofChange memoryTypeSpec)) memoryTypeCard

/-- THE SECOND FORM's CARD OF 'groovelaw13.MinimalCompares'. -/
def minimalComparesUptoCard : Claim7 := { stood := { row := minimalComparesUptoRow, standIns := [], harness := (true, "4938a7d0f4ade09192cac3b10d38cc7ab66cc9f80a9ba477c357612f6791883d"), looks := false }, kinds := [], alts := [], laidByText := true, laidKinds := [.data, .data, .data], laidTests := true, laidLooks := .later }
def MinimalComparesUptoCardSaid : Prop := Claim7.holds Tryz.pinned (.plain (OpenSpec.upto minimalComparesSpec)) minimalComparesUptoCard

/-- THE SECOND FORM's CARD OF 'groovelaw15.MemoryNumbers'. -/
def memoryNumbersUptoCard : Claim7 := { stood := { row := memoryNumbersUptoRow, standIns := [], harness := (true, "4938a7d0f4ade09192cac3b10d38cc7ab66cc9f80a9ba477c357612f6791883d"), looks := false }, kinds := [], alts := [], laidByText := true, laidKinds := [.data, .data, .data], laidTests := true, laidLooks := .later }
def MemoryNumbersUptoCardSaid : Prop := Claim7.holds Tryz.pinned (.plain (OpenSpec.upto memoryNumbersSpec)) memoryNumbersUptoCard

/-- THE SECOND FORM's CARD OF 'groovelaw15.MemoryShown'. -/
def memoryShownUptoCard : Claim7 := { stood := { row := memoryShownUptoRow, standIns := [], harness := (true, "4938a7d0f4ade09192cac3b10d38cc7ab66cc9f80a9ba477c357612f6791883d"), looks := false }, kinds := [], alts := [], laidByText := true, laidKinds := [.data, .data, .data], laidTests := true, laidLooks := .later }
def MemoryShownUptoCardSaid : Prop := Claim7.holds Tryz.pinned (.plain (OpenSpec.upto memoryShownSpec)) memoryShownUptoCard

/-- THE SECOND FORM's CARD OF 'groovelaw15.MemoryMeaning'. -/
def memoryMeaningUptoCard : Claim7 := { stood := { row := memoryMeaningUptoRow, standIns := [], harness := (true, "4938a7d0f4ade09192cac3b10d38cc7ab66cc9f80a9ba477c357612f6791883d"), looks := false }, kinds := [], alts := [], laidByText := true, laidKinds := [.data, .data, .data], laidTests := true, laidLooks := .later }
def MemoryMeaningUptoCardSaid : Prop := Claim7.holds Tryz.pinned (.plain (OpenSpec.upto memoryMeaningSpec)) memoryMeaningUptoCard

/-- THE SECOND FORM's CARD OF 'groovelaw15.MemoryLocal'. -/
def memoryLocalUptoCard : Claim7 := { stood := { row := memoryLocalUptoRow, standIns := [], harness := (true, "4938a7d0f4ade09192cac3b10d38cc7ab66cc9f80a9ba477c357612f6791883d"), looks := false }, kinds := [], alts := [], laidByText := true, laidKinds := [.data, .data, .data], laidTests := true, laidLooks := .later }
def MemoryLocalUptoCardSaid : Prop := Claim7.holds Tryz.pinned (.plain (OpenSpec.upto memoryLocalSpec)) memoryLocalUptoCard

/-- THE SECOND FORM's CARD OF 'groovelaw15.MemoryReads'. -/
def memoryReadsUptoCard : Claim7 := { stood := { row := memoryReadsUptoRow, standIns := [], harness := (true, "4938a7d0f4ade09192cac3b10d38cc7ab66cc9f80a9ba477c357612f6791883d"), looks := false }, kinds := [], alts := [], laidByText := true, laidKinds := [.data, .data, .data], laidTests := true, laidLooks := .later }
def MemoryReadsUptoCardSaid : Prop := Claim7.holds Tryz.pinned (.plain (OpenSpec.upto memoryReadsSpec)) memoryReadsUptoCard

/-- THE SECOND FORM's CARD OF 'groovelaw15.MemoryFollow'. -/
def memoryFollowUptoCard : Claim7 := { stood := { row := memoryFollowUptoRow, standIns := [], harness := (true, "4938a7d0f4ade09192cac3b10d38cc7ab66cc9f80a9ba477c357612f6791883d"), looks := false }, kinds := [], alts := [], laidByText := true, laidKinds := [.data, .data, .data], laidTests := true, laidLooks := .later }
def MemoryFollowUptoCardSaid : Prop := Claim7.holds Tryz.pinned (.plain (OpenSpec.upto memoryFollowSpec)) memoryFollowUptoCard

/-- THE SECOND FORM's CARD OF 'groovelaw15.MemoryType'. -/
def memoryTypeUptoCard : Claim7 := { stood := { row := memoryTypeUptoRow, standIns := [], harness := (true, "4938a7d0f4ade09192cac3b10d38cc7ab66cc9f80a9ba477c357612f6791883d"), looks := false }, kinds := [], alts := [], laidByText := true, laidKinds := [.data, .data, .data], laidTests := true, laidLooks := .later }
def MemoryTypeUptoCardSaid : Prop := Claim7.holds Tryz.pinned (.plain (OpenSpec.upto memoryTypeSpec)) memoryTypeUptoCard
end Rows
end Go.Proofs.YtocbhlohcikapaaGreatDoor
