/-
  DERIVED. GIVEN WITH THE SEED: THE CARDS: each row of YtjebpppjhkkebaaGreatDoorRows.lean that lists a variable, with what it lists TIED to the program's text (the seventh form; the later family's looks); each row that meets fmt, with fmt's text TOLD by the authors' own Lean function (tested against real Go, not proved from fmt's source: count such statements apart). THE CARD IS WHAT COUNTS. Prove the row's statement (the work); the ties are given (YtjebpppjhkkebaaGreatDoorTie.lean); close each card by the builder's one call (the guide's Derived/Test/ToyasCard.lean, 'card_holds'). Laid BY PROGRAM, IN A SANDBOX (cutbox-door.mjs). By AI agents, Wed Nov 11 2026. No macro, syntax, notation, axiom, sorry.
-/
import Derived.Test.YtjebpppjhkkebaaGreatDoorRows
import GoSem.ClaimSeven
namespace Go.Proofs.YtjebpppjhkkebaaGreatDoor
namespace Rows

/-- THE TIED CARD OF 'bedrocklaw14.ManifestNone'. -/
def manifestNoneCard : Claim7 := { stood := { row := manifestNoneRow, standIns := [], harness := (true, "70d498f79985bcd7a9d7fb7773acf0c03ba729eff7813e9f999e1b225c9c0982"), looks := true }, kinds := [], alts := [], laidByText := true, laidKinds := [.data, .pinned], laidTests := true, laidLooks := .later }
def ManifestNoneCardSaid : Prop := Claim7.holds Tryz.pinned (.plain (OpenSpec.ofChange manifestNoneSpec)) manifestNoneCard

/-- THE TIED CARD OF 'bedrocklaw14.ManifestJoined'. -/
def manifestJoinedCard : Claim7 := { stood := { row := manifestJoinedRow, standIns := [], harness := (true, "70d498f79985bcd7a9d7fb7773acf0c03ba729eff7813e9f999e1b225c9c0982"), looks := true }, kinds := [], alts := [], laidByText := true, laidKinds := [.data, .pinned], laidTests := true, laidLooks := .later }
def ManifestJoinedCardSaid : Prop := Claim7.holds Tryz.pinned (.plain (OpenSpec.ofChange manifestJoinedSpec)) manifestJoinedCard

/-- THE TIED CARD OF 'bedrocklaw14.ManifestGrows'. -/
def manifestGrowsCard : Claim7 := { stood := { row := manifestGrowsRow, standIns := [], harness := (true, "70d498f79985bcd7a9d7fb7773acf0c03ba729eff7813e9f999e1b225c9c0982"), looks := true }, kinds := [], alts := [], laidByText := true, laidKinds := [.data, .pinned], laidTests := true, laidLooks := .later }
def ManifestGrowsCardSaid : Prop := Claim7.holds Tryz.pinned (.plain (OpenSpec.ofChange manifestGrowsSpec)) manifestGrowsCard

/-- THE SECOND FORM's CARD OF 'bedrocklaw14.ManifestNone'. -/
def manifestNoneUptoCard : Claim7 := { stood := { row := manifestNoneUptoRow, standIns := [], harness := (true, "70d498f79985bcd7a9d7fb7773acf0c03ba729eff7813e9f999e1b225c9c0982"), looks := true }, kinds := [], alts := [], laidByText := true, laidKinds := [.data, .pinned], laidTests := true, laidLooks := .later }
def ManifestNoneUptoCardSaid : Prop := Claim7.holds Tryz.pinned (.plain (OpenSpec.upto manifestNoneSpec)) manifestNoneUptoCard

/-- THE SECOND FORM's CARD OF 'bedrocklaw14.ManifestJoined'. -/
def manifestJoinedUptoCard : Claim7 := { stood := { row := manifestJoinedUptoRow, standIns := [], harness := (true, "70d498f79985bcd7a9d7fb7773acf0c03ba729eff7813e9f999e1b225c9c0982"), looks := true }, kinds := [], alts := [], laidByText := true, laidKinds := [.data, .pinned], laidTests := true, laidLooks := .later }
def ManifestJoinedUptoCardSaid : Prop := Claim7.holds Tryz.pinned (.plain (OpenSpec.upto manifestJoinedSpec)) manifestJoinedUptoCard

/-- THE SECOND FORM's CARD OF 'bedrocklaw14.ManifestGrows'. -/
def manifestGrowsUptoCard : Claim7 := { stood := { row := manifestGrowsUptoRow, standIns := [], harness := (true, "70d498f79985bcd7a9d7fb7773acf0c03ba729eff7813e9f999e1b225c9c0982"), looks := true }, kinds := [], alts := [], laidByText := true, laidKinds := [.data, .pinned], laidTests := true, laidLooks := .later }
def ManifestGrowsUptoCardSaid : Prop := Claim7.holds Tryz.pinned (.plain (OpenSpec.upto manifestGrowsSpec)) manifestGrowsUptoCard
end Rows
end Go.Proofs.YtjebpppjhkkebaaGreatDoor
