/-
  DERIVED. GIVEN WITH THE SEED: THE CARDS: each row of YtpfibkgmfapnjaaGreatDoorRows.lean that lists a variable, with what it lists TIED to the program's text (the seventh form; the later family's looks); each row that meets fmt, with fmt's text TOLD by the authors' own Lean function (tested against real Go, not proved from fmt's source: count such statements apart). THE CARD IS WHAT COUNTS. Prove the row's statement (the work); the ties are given (YtpfibkgmfapnjaaGreatDoorTie.lean); close each card by the builder's one call (the guide's Derived/Test/ToyasCard.lean, 'card_holds'). Laid BY PROGRAM, IN A SANDBOX (cutbox-door.mjs). By AI agents, Wed Nov 11 2026. No macro, syntax, notation, axiom, sorry.
-/
import Derived.Test.YtpfibkgmfapnjaaGreatDoorRows
import GoSem.ClaimSeven
namespace Go.Proofs.YtpfibkgmfapnjaaGreatDoor
namespace Rows

/-- THE TIED CARD OF 'bedrocklaw14.ManifestPlays'. -/
def manifestPlaysCard : Claim7 := { stood := { row := manifestPlaysRow, standIns := [], harness := (true, "a8ceb20c661de2b89cc4925df3b75e155f25fd810ced9a5717a0b024a48b630b"), looks := true }, kinds := [], alts := [], laidByText := true, laidKinds := [.data, .pinned], laidTests := true, laidLooks := .later }
def ManifestPlaysCardSaid : Prop := Claim7.holds Tryz.pinned (.plain (OpenSpec.ofChange manifestPlaysSpec)) manifestPlaysCard

/-- THE TIED CARD OF 'bedrocklaw14.ManifestFull'. -/
def manifestFullCard : Claim7 := { stood := { row := manifestFullRow, standIns := [], harness := (true, "a8ceb20c661de2b89cc4925df3b75e155f25fd810ced9a5717a0b024a48b630b"), looks := true }, kinds := [], alts := [], laidByText := true, laidKinds := [.data, .pinned], laidTests := true, laidLooks := .later }
def ManifestFullCardSaid : Prop := Claim7.holds Tryz.pinned (.plain (OpenSpec.ofChange manifestFullSpec)) manifestFullCard

/-- THE TIED CARD OF 'bedrocklaw14.ManifestCut'. -/
def manifestCutCard : Claim7 := { stood := { row := manifestCutRow, standIns := [], harness := (true, "a8ceb20c661de2b89cc4925df3b75e155f25fd810ced9a5717a0b024a48b630b"), looks := true }, kinds := [], alts := [], laidByText := true, laidKinds := [.data, .pinned], laidTests := true, laidLooks := .later }
def ManifestCutCardSaid : Prop := Claim7.holds Tryz.pinned (.plain (OpenSpec.ofChange manifestCutSpec)) manifestCutCard

/-- THE TIED CARD OF 'bedrocklaw14.ManifestSwap'. -/
def manifestSwapCard : Claim7 := { stood := { row := manifestSwapRow, standIns := [], harness := (true, "a8ceb20c661de2b89cc4925df3b75e155f25fd810ced9a5717a0b024a48b630b"), looks := true }, kinds := [], alts := [], laidByText := true, laidKinds := [.data, .pinned], laidTests := true, laidLooks := .later }
def ManifestSwapCardSaid : Prop := Claim7.holds Tryz.pinned (.plain (OpenSpec.ofChange manifestSwapSpec)) manifestSwapCard

/-- THE SECOND FORM's CARD OF 'bedrocklaw14.ManifestPlays'. -/
def manifestPlaysUptoCard : Claim7 := { stood := { row := manifestPlaysUptoRow, standIns := [], harness := (true, "a8ceb20c661de2b89cc4925df3b75e155f25fd810ced9a5717a0b024a48b630b"), looks := true }, kinds := [], alts := [], laidByText := true, laidKinds := [.data, .pinned], laidTests := true, laidLooks := .later }
def ManifestPlaysUptoCardSaid : Prop := Claim7.holds Tryz.pinned (.plain (OpenSpec.upto manifestPlaysSpec)) manifestPlaysUptoCard

/-- THE SECOND FORM's CARD OF 'bedrocklaw14.ManifestFull'. -/
def manifestFullUptoCard : Claim7 := { stood := { row := manifestFullUptoRow, standIns := [], harness := (true, "a8ceb20c661de2b89cc4925df3b75e155f25fd810ced9a5717a0b024a48b630b"), looks := true }, kinds := [], alts := [], laidByText := true, laidKinds := [.data, .pinned], laidTests := true, laidLooks := .later }
def ManifestFullUptoCardSaid : Prop := Claim7.holds Tryz.pinned (.plain (OpenSpec.upto manifestFullSpec)) manifestFullUptoCard

/-- THE SECOND FORM's CARD OF 'bedrocklaw14.ManifestCut'. -/
def manifestCutUptoCard : Claim7 := { stood := { row := manifestCutUptoRow, standIns := [], harness := (true, "a8ceb20c661de2b89cc4925df3b75e155f25fd810ced9a5717a0b024a48b630b"), looks := true }, kinds := [], alts := [], laidByText := true, laidKinds := [.data, .pinned], laidTests := true, laidLooks := .later }
def ManifestCutUptoCardSaid : Prop := Claim7.holds Tryz.pinned (.plain (OpenSpec.upto manifestCutSpec)) manifestCutUptoCard

/-- THE SECOND FORM's CARD OF 'bedrocklaw14.ManifestSwap'. -/
def manifestSwapUptoCard : Claim7 := { stood := { row := manifestSwapUptoRow, standIns := [], harness := (true, "a8ceb20c661de2b89cc4925df3b75e155f25fd810ced9a5717a0b024a48b630b"), looks := true }, kinds := [], alts := [], laidByText := true, laidKinds := [.data, .pinned], laidTests := true, laidLooks := .later }
def ManifestSwapUptoCardSaid : Prop := Claim7.holds Tryz.pinned (.plain (OpenSpec.upto manifestSwapSpec)) manifestSwapUptoCard
end Rows
end Go.Proofs.YtpfibkgmfapnjaaGreatDoor
