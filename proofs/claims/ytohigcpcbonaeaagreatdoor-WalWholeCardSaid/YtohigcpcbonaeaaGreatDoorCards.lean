/-
  DERIVED. GIVEN WITH THE SEED: THE CARDS: each row of YtohigcpcbonaeaaGreatDoorRows.lean that lists a variable, with what it lists TIED to the program's text (the seventh form; the later family's looks); each row that meets fmt, with fmt's text TOLD by the authors' own Lean function (tested against real Go, not proved from fmt's source: count such statements apart). THE CARD IS WHAT COUNTS. Prove the row's statement (the work); the ties are given (YtohigcpcbonaeaaGreatDoorTie.lean); close each card by the builder's one call (the guide's Derived/Test/ToyasCard.lean, 'card_holds'). Laid BY PROGRAM, IN A SANDBOX (cutbox-door.mjs). By AI agents, Wed Nov 11 2026. No macro, syntax, notation, axiom, sorry.
-/
import Derived.Test.YtohigcpcbonaeaaGreatDoorRows
import GoSem.ClaimSeven
namespace Go.Proofs.YtohigcpcbonaeaaGreatDoor
namespace Rows

/-- THE TIED CARD OF 'bedrocklaw9.WalWhole'. -/
def walWholeCard : Claim7 := { stood := { row := walWholeRow, standIns := [], harness := (true, "cbb18179680de3fed8471a321b8d0696eef1bc50bcd43824888c7e03fe08af74"), looks := true }, kinds := [], alts := [], laidByText := true, laidKinds := [.data, .pinned], laidTests := true, laidLooks := .later }
def WalWholeCardSaid : Prop := Claim7.holds Tryz.pinned (.plain (OpenSpec.ofChange walWholeSpec)) walWholeCard

/-- THE SECOND FORM's CARD OF 'bedrocklaw9.WalWhole'. -/
def walWholeUptoCard : Claim7 := { stood := { row := walWholeUptoRow, standIns := [], harness := (true, "cbb18179680de3fed8471a321b8d0696eef1bc50bcd43824888c7e03fe08af74"), looks := true }, kinds := [], alts := [], laidByText := true, laidKinds := [.data, .pinned], laidTests := true, laidLooks := .later }
def WalWholeUptoCardSaid : Prop := Claim7.holds Tryz.pinned (.plain (OpenSpec.upto walWholeSpec)) walWholeUptoCard
end Rows
end Go.Proofs.YtohigcpcbonaeaaGreatDoor
