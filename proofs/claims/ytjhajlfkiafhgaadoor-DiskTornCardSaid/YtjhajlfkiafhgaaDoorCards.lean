/-
  DERIVED. GIVEN WITH THE SEED: THE CARDS: each row of YtjhajlfkiafhgaaDoorRows.lean that lists a variable, with what it lists TIED to the program's text (the seventh form; the later family's looks); each row that meets fmt, with fmt's text TOLD by the authors' own Lean function (tested against real Go, not proved from fmt's source: count such statements apart). THE CARD IS WHAT COUNTS. Prove the row's statement (the work); the ties are given (YtjhajlfkiafhgaaDoorTie.lean); close each card by the builder's one call (the guide's Derived/Test/ToyasCard.lean, 'card_holds'). Laid BY PROGRAM, IN A SANDBOX (cutbox-door.mjs). By AI agents, Wed Nov 11 2026. No macro, syntax, notation, axiom, sorry.
-/
import Derived.Test.YtjhajlfkiafhgaaDoorRows
import GoSem.ClaimSeven
namespace Go.Proofs.YtjhajlfkiafhgaaDoor
namespace Rows

/-- THE TIED CARD OF 'bedrocklaw7.DiskQuota'. -/
def diskQuotaCard : Claim7 := { stood := { row := diskQuotaRow, standIns := [], harness := (true, "eb93727281c0006152a75ed9f343c72346fe3859bead0e0ed91ccf3f30e8b029"), looks := true }, kinds := [], alts := [], laidByText := true, laidKinds := [.data, .pinned], laidTests := true, laidLooks := .later }
def DiskQuotaCardSaid : Prop := Claim7.holds Tryd.pinned (.plain (OpenSpec.ofChange diskQuotaSpec)) diskQuotaCard

/-- THE TIED CARD OF 'bedrocklaw7.DiskSynced'. -/
def diskSyncedCard : Claim7 := { stood := { row := diskSyncedRow, standIns := [], harness := (true, "eb93727281c0006152a75ed9f343c72346fe3859bead0e0ed91ccf3f30e8b029"), looks := true }, kinds := [], alts := [], laidByText := true, laidKinds := [.data, .pinned], laidTests := true, laidLooks := .later }
def DiskSyncedCardSaid : Prop := Claim7.holds Tryd.pinned (.plain (OpenSpec.ofChange diskSyncedSpec)) diskSyncedCard

/-- THE TIED CARD OF 'bedrocklaw7.DiskTorn'. -/
def diskTornCard : Claim7 := { stood := { row := diskTornRow, standIns := [], harness := (true, "eb93727281c0006152a75ed9f343c72346fe3859bead0e0ed91ccf3f30e8b029"), looks := true }, kinds := [], alts := [], laidByText := true, laidKinds := [.data, .pinned], laidTests := true, laidLooks := .later }
def DiskTornCardSaid : Prop := Claim7.holds Tryd.pinned (.plain (OpenSpec.ofChange diskTornSpec)) diskTornCard

/-- THE TIED CARD OF 'bedrocklaw7.DiskRenames'. -/
def diskRenamesCard : Claim7 := { stood := { row := diskRenamesRow, standIns := [], harness := (true, "eb93727281c0006152a75ed9f343c72346fe3859bead0e0ed91ccf3f30e8b029"), looks := true }, kinds := [], alts := [], laidByText := true, laidKinds := [.data, .pinned], laidTests := true, laidLooks := .later }
def DiskRenamesCardSaid : Prop := Claim7.holds Tryd.pinned (.plain (OpenSpec.ofChange diskRenamesSpec)) diskRenamesCard

/-- THE TIED CARD OF 'bedrocklaw7.DiskTwins'. -/
def diskTwinsCard : Claim7 := { stood := { row := diskTwinsRow, standIns := [], harness := (true, "eb93727281c0006152a75ed9f343c72346fe3859bead0e0ed91ccf3f30e8b029"), looks := true }, kinds := [], alts := [], laidByText := true, laidKinds := [.data, .pinned], laidTests := true, laidLooks := .later }
def DiskTwinsCardSaid : Prop := Claim7.holds Tryd.pinned (.plain (OpenSpec.ofChange diskTwinsSpec)) diskTwinsCard

/-- THE TIED CARD OF 'bedrocklaw7.DiskFuse'. -/
def diskFuseCard : Claim7 := { stood := { row := diskFuseRow, standIns := [], harness := (true, "eb93727281c0006152a75ed9f343c72346fe3859bead0e0ed91ccf3f30e8b029"), looks := true }, kinds := [], alts := [], laidByText := true, laidKinds := [.data, .pinned], laidTests := true, laidLooks := .later }
def DiskFuseCardSaid : Prop := Claim7.holds Tryd.pinned (.plain (OpenSpec.ofChange diskFuseSpec)) diskFuseCard

/-- THE TIED CARD OF 'bedrocklaw7.DiskNone'. -/
def diskNoneCard : Claim7 := { stood := { row := diskNoneRow, standIns := [], harness := (true, "eb93727281c0006152a75ed9f343c72346fe3859bead0e0ed91ccf3f30e8b029"), looks := true }, kinds := [], alts := [], laidByText := true, laidKinds := [.data, .pinned], laidTests := true, laidLooks := .later }
def DiskNoneCardSaid : Prop := Claim7.holds Tryd.pinned (.plain (OpenSpec.ofChange diskNoneSpec)) diskNoneCard

/-- THE SECOND FORM's CARD OF 'bedrocklaw7.DiskQuota'. -/
def diskQuotaUptoCard : Claim7 := { stood := { row := diskQuotaUptoRow, standIns := [], harness := (true, "eb93727281c0006152a75ed9f343c72346fe3859bead0e0ed91ccf3f30e8b029"), looks := true }, kinds := [], alts := [], laidByText := true, laidKinds := [.data, .pinned], laidTests := true, laidLooks := .later }
def DiskQuotaUptoCardSaid : Prop := Claim7.holds Tryd.pinned (.plain (OpenSpec.upto diskQuotaSpec)) diskQuotaUptoCard

/-- THE SECOND FORM's CARD OF 'bedrocklaw7.DiskSynced'. -/
def diskSyncedUptoCard : Claim7 := { stood := { row := diskSyncedUptoRow, standIns := [], harness := (true, "eb93727281c0006152a75ed9f343c72346fe3859bead0e0ed91ccf3f30e8b029"), looks := true }, kinds := [], alts := [], laidByText := true, laidKinds := [.data, .pinned], laidTests := true, laidLooks := .later }
def DiskSyncedUptoCardSaid : Prop := Claim7.holds Tryd.pinned (.plain (OpenSpec.upto diskSyncedSpec)) diskSyncedUptoCard

/-- THE SECOND FORM's CARD OF 'bedrocklaw7.DiskTorn'. -/
def diskTornUptoCard : Claim7 := { stood := { row := diskTornUptoRow, standIns := [], harness := (true, "eb93727281c0006152a75ed9f343c72346fe3859bead0e0ed91ccf3f30e8b029"), looks := true }, kinds := [], alts := [], laidByText := true, laidKinds := [.data, .pinned], laidTests := true, laidLooks := .later }
def DiskTornUptoCardSaid : Prop := Claim7.holds Tryd.pinned (.plain (OpenSpec.upto diskTornSpec)) diskTornUptoCard

/-- THE SECOND FORM's CARD OF 'bedrocklaw7.DiskRenames'. -/
def diskRenamesUptoCard : Claim7 := { stood := { row := diskRenamesUptoRow, standIns := [], harness := (true, "eb93727281c0006152a75ed9f343c72346fe3859bead0e0ed91ccf3f30e8b029"), looks := true }, kinds := [], alts := [], laidByText := true, laidKinds := [.data, .pinned], laidTests := true, laidLooks := .later }
def DiskRenamesUptoCardSaid : Prop := Claim7.holds Tryd.pinned (.plain (OpenSpec.upto diskRenamesSpec)) diskRenamesUptoCard

/-- THE SECOND FORM's CARD OF 'bedrocklaw7.DiskTwins'. -/
def diskTwinsUptoCard : Claim7 := { stood := { row := diskTwinsUptoRow, standIns := [], harness := (true, "eb93727281c0006152a75ed9f343c72346fe3859bead0e0ed91ccf3f30e8b029"), looks := true }, kinds := [], alts := [], laidByText := true, laidKinds := [.data, .pinned], laidTests := true, laidLooks := .later }
def DiskTwinsUptoCardSaid : Prop := Claim7.holds Tryd.pinned (.plain (OpenSpec.upto diskTwinsSpec)) diskTwinsUptoCard

/-- THE SECOND FORM's CARD OF 'bedrocklaw7.DiskFuse'. -/
def diskFuseUptoCard : Claim7 := { stood := { row := diskFuseUptoRow, standIns := [], harness := (true, "eb93727281c0006152a75ed9f343c72346fe3859bead0e0ed91ccf3f30e8b029"), looks := true }, kinds := [], alts := [], laidByText := true, laidKinds := [.data, .pinned], laidTests := true, laidLooks := .later }
def DiskFuseUptoCardSaid : Prop := Claim7.holds Tryd.pinned (.plain (OpenSpec.upto diskFuseSpec)) diskFuseUptoCard

/-- THE SECOND FORM's CARD OF 'bedrocklaw7.DiskNone'. -/
def diskNoneUptoCard : Claim7 := { stood := { row := diskNoneUptoRow, standIns := [], harness := (true, "eb93727281c0006152a75ed9f343c72346fe3859bead0e0ed91ccf3f30e8b029"), looks := true }, kinds := [], alts := [], laidByText := true, laidKinds := [.data, .pinned], laidTests := true, laidLooks := .later }
def DiskNoneUptoCardSaid : Prop := Claim7.holds Tryd.pinned (.plain (OpenSpec.upto diskNoneSpec)) diskNoneUptoCard
end Rows
end Go.Proofs.YtjhajlfkiafhgaaDoor
