/-
  DERIVED. GIVEN WITH THE SEED: THE CARDS: each row of YtceamkcaokdgaaaGreatDoorRows.lean that lists a variable, with what it lists TIED to the program's text (the seventh form; the later family's looks); each row that meets fmt, with fmt's text TOLD by the authors' own Lean function (tested against real Go, not proved from fmt's source: count such statements apart). THE CARD IS WHAT COUNTS. Prove the row's statement (the work); the ties are given (YtceamkcaokdgaaaGreatDoorTie.lean); close each card by the builder's one call (the guide's Derived/Test/ToyasCard.lean, 'card_holds'). Laid BY PROGRAM, IN A SANDBOX (cutbox-door.mjs). By AI agents, Wed Nov 11 2026. No macro, syntax, notation, axiom, sorry.
-/
import Derived.Test.YtceamkcaokdgaaaGreatDoorRows
import GoSem.ClaimSeven
namespace Go.Proofs.YtceamkcaokdgaaaGreatDoor
namespace Rows

/-- THE TIED CARD OF 'bedrocklaw7.DiskPlays'. -/
def diskPlaysCard : Claim7 := { stood := { row := diskPlaysRow, standIns := [], harness := (true, "1e76242e057984b5004a89ce9102446030892da40dc42899d781c471d27ecd97"), looks := true }, kinds := [], alts := [], laidByText := true, laidKinds := [.data, .pinned], laidTests := true, laidLooks := .later }
def DiskPlaysCardSaid : Prop := Claim7.holds Tryz.pinned (.plain (OpenSpec.ofChange diskPlaysSpec)) diskPlaysCard

/-- THE TIED CARD OF 'bedrocklaw7.DiskAll'. -/
def diskAllCard : Claim7 := { stood := { row := diskAllRow, standIns := [], harness := (true, "1e76242e057984b5004a89ce9102446030892da40dc42899d781c471d27ecd97"), looks := true }, kinds := [], alts := [], laidByText := true, laidKinds := [.data, .pinned], laidTests := true, laidLooks := .later }
def DiskAllCardSaid : Prop := Claim7.holds Tryz.pinned (.plain (OpenSpec.ofChange diskAllSpec)) diskAllCard

/-- THE SECOND FORM's CARD OF 'bedrocklaw7.DiskPlays'. -/
def diskPlaysUptoCard : Claim7 := { stood := { row := diskPlaysUptoRow, standIns := [], harness := (true, "1e76242e057984b5004a89ce9102446030892da40dc42899d781c471d27ecd97"), looks := true }, kinds := [], alts := [], laidByText := true, laidKinds := [.data, .pinned], laidTests := true, laidLooks := .later }
def DiskPlaysUptoCardSaid : Prop := Claim7.holds Tryz.pinned (.plain (OpenSpec.upto diskPlaysSpec)) diskPlaysUptoCard

/-- THE SECOND FORM's CARD OF 'bedrocklaw7.DiskAll'. -/
def diskAllUptoCard : Claim7 := { stood := { row := diskAllUptoRow, standIns := [], harness := (true, "1e76242e057984b5004a89ce9102446030892da40dc42899d781c471d27ecd97"), looks := true }, kinds := [], alts := [], laidByText := true, laidKinds := [.data, .pinned], laidTests := true, laidLooks := .later }
def DiskAllUptoCardSaid : Prop := Claim7.holds Tryz.pinned (.plain (OpenSpec.upto diskAllSpec)) diskAllUptoCard
end Rows
end Go.Proofs.YtceamkcaokdgaaaGreatDoor
