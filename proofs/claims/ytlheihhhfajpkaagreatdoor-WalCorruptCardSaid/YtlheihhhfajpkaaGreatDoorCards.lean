/-
  DERIVED. GIVEN WITH THE SEED: THE CARDS: each row of YtlheihhhfajpkaaGreatDoorRows.lean that lists a variable, with what it lists TIED to the program's text (the seventh form; the later family's looks); each row that meets fmt, with fmt's text TOLD by the authors' own Lean function (tested against real Go, not proved from fmt's source: count such statements apart). THE CARD IS WHAT COUNTS. Prove the row's statement (the work); the ties are given (YtlheihhhfajpkaaGreatDoorTie.lean); close each card by the builder's one call (the guide's Derived/Test/ToyasCard.lean, 'card_holds'). Laid BY PROGRAM, IN A SANDBOX (cutbox-door.mjs). By AI agents, Wed Nov 11 2026. No macro, syntax, notation, axiom, sorry.
-/
import Derived.Test.YtlheihhhfajpkaaGreatDoorRows
import GoSem.ClaimSeven
namespace Go.Proofs.YtlheihhhfajpkaaGreatDoor
namespace Rows

/-- THE TIED CARD OF 'bedrocklaw9.WalSizes'. -/
def walSizesCard : Claim7 := { stood := { row := walSizesRow, standIns := [], harness := (true, "3d87163918f6c332d2fd1f6f9df81b661407973a076871438a9c9cf1eefa658e"), looks := true }, kinds := [], alts := [], laidByText := true, laidKinds := [.data, .pinned], laidTests := true, laidLooks := .later }
def WalSizesCardSaid : Prop := Claim7.holds Tryz.pinned (.plain (OpenSpec.ofChange walSizesSpec)) walSizesCard

/-- THE TIED CARD OF 'bedrocklaw9.WalCorrupt'. -/
def walCorruptCard : Claim7 := { stood := { row := walCorruptRow, standIns := [], harness := (true, "3d87163918f6c332d2fd1f6f9df81b661407973a076871438a9c9cf1eefa658e"), looks := true }, kinds := [], alts := [], laidByText := true, laidKinds := [.data, .pinned], laidTests := true, laidLooks := .later }
def WalCorruptCardSaid : Prop := Claim7.holds Tryz.pinned (.plain (OpenSpec.ofChange walCorruptSpec)) walCorruptCard

/-- THE TIED CARD OF 'bedrocklaw9.WalAgain'. -/
def walAgainCard : Claim7 := { stood := { row := walAgainRow, standIns := [], harness := (true, "3d87163918f6c332d2fd1f6f9df81b661407973a076871438a9c9cf1eefa658e"), looks := true }, kinds := [], alts := [], laidByText := true, laidKinds := [.data, .pinned], laidTests := true, laidLooks := .later }
def WalAgainCardSaid : Prop := Claim7.holds Tryz.pinned (.plain (OpenSpec.ofChange walAgainSpec)) walAgainCard

/-- THE TIED CARD OF 'bedrocklaw9.WalFull'. -/
def walFullCard : Claim7 := { stood := { row := walFullRow, standIns := [], harness := (true, "3d87163918f6c332d2fd1f6f9df81b661407973a076871438a9c9cf1eefa658e"), looks := true }, kinds := [], alts := [], laidByText := true, laidKinds := [.data, .pinned], laidTests := true, laidLooks := .later }
def WalFullCardSaid : Prop := Claim7.holds Tryz.pinned (.plain (OpenSpec.ofChange walFullSpec)) walFullCard

/-- THE TIED CARD OF 'bedrocklaw9.WalWhole'. -/
def walWholeCard : Claim7 := { stood := { row := walWholeRow, standIns := [], harness := (true, "3d87163918f6c332d2fd1f6f9df81b661407973a076871438a9c9cf1eefa658e"), looks := true }, kinds := [], alts := [], laidByText := true, laidKinds := [.data, .pinned], laidTests := true, laidLooks := .later }
def WalWholeCardSaid : Prop := Claim7.holds Tryz.pinned (.plain (OpenSpec.ofChange walWholeSpec)) walWholeCard

/-- THE TIED CARD OF 'bedrocklaw9.WalNone'. -/
def walNoneCard : Claim7 := { stood := { row := walNoneRow, standIns := [], harness := (true, "3d87163918f6c332d2fd1f6f9df81b661407973a076871438a9c9cf1eefa658e"), looks := true }, kinds := [], alts := [], laidByText := true, laidKinds := [.data, .pinned], laidTests := true, laidLooks := .later }
def WalNoneCardSaid : Prop := Claim7.holds Tryz.pinned (.plain (OpenSpec.ofChange walNoneSpec)) walNoneCard

/-- THE TIED CARD OF 'bedrocklaw9.WalDropped'. -/
def walDroppedCard : Claim7 := { stood := { row := walDroppedRow, standIns := [], harness := (true, "3d87163918f6c332d2fd1f6f9df81b661407973a076871438a9c9cf1eefa658e"), looks := true }, kinds := [], alts := [], laidByText := true, laidKinds := [.data, .pinned], laidTests := true, laidLooks := .later }
def WalDroppedCardSaid : Prop := Claim7.holds Tryz.pinned (.plain (OpenSpec.ofChange walDroppedSpec)) walDroppedCard

/-- THE SECOND FORM's CARD OF 'bedrocklaw9.WalSizes'. -/
def walSizesUptoCard : Claim7 := { stood := { row := walSizesUptoRow, standIns := [], harness := (true, "3d87163918f6c332d2fd1f6f9df81b661407973a076871438a9c9cf1eefa658e"), looks := true }, kinds := [], alts := [], laidByText := true, laidKinds := [.data, .pinned], laidTests := true, laidLooks := .later }
def WalSizesUptoCardSaid : Prop := Claim7.holds Tryz.pinned (.plain (OpenSpec.upto walSizesSpec)) walSizesUptoCard

/-- THE SECOND FORM's CARD OF 'bedrocklaw9.WalCorrupt'. -/
def walCorruptUptoCard : Claim7 := { stood := { row := walCorruptUptoRow, standIns := [], harness := (true, "3d87163918f6c332d2fd1f6f9df81b661407973a076871438a9c9cf1eefa658e"), looks := true }, kinds := [], alts := [], laidByText := true, laidKinds := [.data, .pinned], laidTests := true, laidLooks := .later }
def WalCorruptUptoCardSaid : Prop := Claim7.holds Tryz.pinned (.plain (OpenSpec.upto walCorruptSpec)) walCorruptUptoCard

/-- THE SECOND FORM's CARD OF 'bedrocklaw9.WalAgain'. -/
def walAgainUptoCard : Claim7 := { stood := { row := walAgainUptoRow, standIns := [], harness := (true, "3d87163918f6c332d2fd1f6f9df81b661407973a076871438a9c9cf1eefa658e"), looks := true }, kinds := [], alts := [], laidByText := true, laidKinds := [.data, .pinned], laidTests := true, laidLooks := .later }
def WalAgainUptoCardSaid : Prop := Claim7.holds Tryz.pinned (.plain (OpenSpec.upto walAgainSpec)) walAgainUptoCard

/-- THE SECOND FORM's CARD OF 'bedrocklaw9.WalFull'. -/
def walFullUptoCard : Claim7 := { stood := { row := walFullUptoRow, standIns := [], harness := (true, "3d87163918f6c332d2fd1f6f9df81b661407973a076871438a9c9cf1eefa658e"), looks := true }, kinds := [], alts := [], laidByText := true, laidKinds := [.data, .pinned], laidTests := true, laidLooks := .later }
def WalFullUptoCardSaid : Prop := Claim7.holds Tryz.pinned (.plain (OpenSpec.upto walFullSpec)) walFullUptoCard

/-- THE SECOND FORM's CARD OF 'bedrocklaw9.WalWhole'. -/
def walWholeUptoCard : Claim7 := { stood := { row := walWholeUptoRow, standIns := [], harness := (true, "3d87163918f6c332d2fd1f6f9df81b661407973a076871438a9c9cf1eefa658e"), looks := true }, kinds := [], alts := [], laidByText := true, laidKinds := [.data, .pinned], laidTests := true, laidLooks := .later }
def WalWholeUptoCardSaid : Prop := Claim7.holds Tryz.pinned (.plain (OpenSpec.upto walWholeSpec)) walWholeUptoCard

/-- THE SECOND FORM's CARD OF 'bedrocklaw9.WalNone'. -/
def walNoneUptoCard : Claim7 := { stood := { row := walNoneUptoRow, standIns := [], harness := (true, "3d87163918f6c332d2fd1f6f9df81b661407973a076871438a9c9cf1eefa658e"), looks := true }, kinds := [], alts := [], laidByText := true, laidKinds := [.data, .pinned], laidTests := true, laidLooks := .later }
def WalNoneUptoCardSaid : Prop := Claim7.holds Tryz.pinned (.plain (OpenSpec.upto walNoneSpec)) walNoneUptoCard

/-- THE SECOND FORM's CARD OF 'bedrocklaw9.WalDropped'. -/
def walDroppedUptoCard : Claim7 := { stood := { row := walDroppedUptoRow, standIns := [], harness := (true, "3d87163918f6c332d2fd1f6f9df81b661407973a076871438a9c9cf1eefa658e"), looks := true }, kinds := [], alts := [], laidByText := true, laidKinds := [.data, .pinned], laidTests := true, laidLooks := .later }
def WalDroppedUptoCardSaid : Prop := Claim7.holds Tryz.pinned (.plain (OpenSpec.upto walDroppedSpec)) walDroppedUptoCard
end Rows
end Go.Proofs.YtlheihhhfajpkaaGreatDoor
