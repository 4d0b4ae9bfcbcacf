/-
  No cell of these rows narrows 'for every input' (looked for: loops, veiled, ifaces, maps, wideKeys, modest, calm, conditions, laid).
  DERIVED. THE GIVEN ROWS OF THIS SEAT. 8 by the template 'for every input the law returns true; each argument reads behind the call as it read before'; 0 by the template 'total and deterministic' (their statements: YtioddambldnfnaaTotals.lean).
  GIVEN WITH THE SEED: the statements are not yours to turn. If you find one false, say at which input.
  Laid BY PROGRAM, IN A SANDBOX (cutbox-rows.mjs): the forced cells as the released guide's own fill.sh prints them over the translation d49d56f980c86732… (all of the seat's roots in one cut). By AI agents, Wed Nov 11 2026. No macro, syntax, notation, axiom, sorry.
-/
import Derived.Test.YtioddambldnfnaaChecked
import GoSem.Claim
import GoSem.ClaimJoined
import GoSem.ClaimMapViews
import Derived.JoinedTies
import Derived.KernelRfl
namespace Go.Proofs.Ytioddambldnfnaa
/- THE CELL 'sum', in the pinned program and in every row, IS THE sha256 OF THE DUMP (.gsa) THAT YtioddambldnfnaaProg.lean LOADS. Nothing in Lean hashes anything: it is a label: what it is worth is what the hold of that sum in a sandbox is worth. -/
noncomputable def Try.pinned : Pinned := { name := "ytioddambldnfnaa", sum := "d49d56f980c867324430b42ae270cecb395f98ea108fbd2a465d8b8e35244ac3", checked := Try.checked }
namespace Rows
def none {H : Type} : Left H := { results := [], args := [] }

/-- 'bedrocklaw1.RawChanged': WHATEVER THE INPUT: true; the input reads as it did. -/
def rawChangedSpec : ChangeSpec := { name := "rawChanged", fn := fun _ => fun
  | [d1, d2, d3] => { results := [.lit (.bool true)], args := [d1, d2, d3] }
  | _ => none }
def rawChangedRow : OpenClaim := { program := "ytioddambldnfnaa", sum := "d49d56f980c867324430b42ae270cecb395f98ea108fbd2a465d8b8e35244ac3", func := "bedrock/bedrocklaw1.RawChanged", spec := "rawChanged", unfollowed := true, recurses := true, apart := false }
def RawChangedSaid : Prop := rawChangedRow.holds Try.pinned (OpenSpec.ofChange rawChangedSpec)

/-- ITS FALSE NEIGHBOUR: 'it returns false'. Refute it at one input. -/
def rawChangedWrong : ChangeSpec := { name := "rawChanged", fn := fun _ => fun
  | [d1, d2, d3] => { results := [.lit (.bool false)], args := [d1, d2, d3] }
  | _ => none }
def RawChangedWrongFalsely : Prop := rawChangedRow.holds Try.pinned (OpenSpec.ofChange rawChangedWrong)

/-- 'bedrocklaw1.RawOrder': WHATEVER THE INPUT: true; the input reads as it did. -/
def rawOrderSpec : ChangeSpec := { name := "rawOrder", fn := fun _ => fun
  | [d1, d2, d3, d4, d5, d6] => { results := [.lit (.bool true)], args := [d1, d2, d3, d4, d5, d6] }
  | _ => none }
def rawOrderRow : OpenClaim := { program := "ytioddambldnfnaa", sum := "d49d56f980c867324430b42ae270cecb395f98ea108fbd2a465d8b8e35244ac3", func := "bedrock/bedrocklaw1.RawOrder", spec := "rawOrder", inPlace := ["internal/bytealg.abigen_runtime_cmpstring"], unfollowed := true, recurses := true, apart := false }
def RawOrderSaid : Prop := rawOrderRow.holds Try.pinned (OpenSpec.ofChange rawOrderSpec)

/-- ITS FALSE NEIGHBOUR: 'it returns false'. Refute it at one input. -/
def rawOrderWrong : ChangeSpec := { name := "rawOrder", fn := fun _ => fun
  | [d1, d2, d3, d4, d5, d6] => { results := [.lit (.bool false)], args := [d1, d2, d3, d4, d5, d6] }
  | _ => none }
def RawOrderWrongFalsely : Prop := rawOrderRow.holds Try.pinned (OpenSpec.ofChange rawOrderWrong)

/-- 'bedrocklaw1.RawVars': WHATEVER THE INPUT: true; the input reads as it did. -/
def rawVarsSpec : ChangeSpec := { name := "rawVars", fn := fun _ => fun
  | [d] => { results := [.lit (.bool true)], args := [d] }
  | _ => none }
def rawVarsRow : OpenClaim := { program := "ytioddambldnfnaa", sum := "d49d56f980c867324430b42ae270cecb395f98ea108fbd2a465d8b8e35244ac3", func := "bedrock/bedrocklaw1.RawVars", spec := "rawVars", unfollowed := true, recurses := true, apart := false }
def RawVarsSaid : Prop := rawVarsRow.holds Try.pinned (OpenSpec.ofChange rawVarsSpec)

/-- ITS FALSE NEIGHBOUR: 'it returns false'. Refute it at one input. -/
def rawVarsWrong : ChangeSpec := { name := "rawVars", fn := fun _ => fun
  | [d] => { results := [.lit (.bool false)], args := [d] }
  | _ => none }
def RawVarsWrongFalsely : Prop := rawVarsRow.holds Try.pinned (OpenSpec.ofChange rawVarsWrong)

/-- 'bedrocklaw1.RawShort': WHATEVER THE INPUT: true; the input reads as it did. -/
def rawShortSpec : ChangeSpec := { name := "rawShort", fn := fun _ => fun
  | [d] => { results := [.lit (.bool true)], args := [d] }
  | _ => none }
def rawShortRow : OpenClaim := { program := "ytioddambldnfnaa", sum := "d49d56f980c867324430b42ae270cecb395f98ea108fbd2a465d8b8e35244ac3", func := "bedrock/bedrocklaw1.RawShort", spec := "rawShort", unfollowed := true, recurses := true, apart := false }
def RawShortSaid : Prop := rawShortRow.holds Try.pinned (OpenSpec.ofChange rawShortSpec)

/-- ITS FALSE NEIGHBOUR: 'it returns false'. Refute it at one input. -/
def rawShortWrong : ChangeSpec := { name := "rawShort", fn := fun _ => fun
  | [d] => { results := [.lit (.bool false)], args := [d] }
  | _ => none }
def RawShortWrongFalsely : Prop := rawShortRow.holds Try.pinned (OpenSpec.ofChange rawShortWrong)

/-- 'bedrocklaw1.RawNumbers': WHATEVER THE INPUT: true; the input reads as it did. -/
def rawNumbersSpec : ChangeSpec := { name := "rawNumbers", fn := fun _ => fun
  | [d1, d2, d3, d4] => { results := [.lit (.bool true)], args := [d1, d2, d3, d4] }
  | _ => none }
def rawNumbersRow : OpenClaim := { program := "ytioddambldnfnaa", sum := "d49d56f980c867324430b42ae270cecb395f98ea108fbd2a465d8b8e35244ac3", func := "bedrock/bedrocklaw1.RawNumbers", spec := "rawNumbers", unfollowed := true, recurses := true, apart := false }
def RawNumbersSaid : Prop := rawNumbersRow.holds Try.pinned (OpenSpec.ofChange rawNumbersSpec)

/-- ITS FALSE NEIGHBOUR: 'it returns false'. Refute it at one input. -/
def rawNumbersWrong : ChangeSpec := { name := "rawNumbers", fn := fun _ => fun
  | [d1, d2, d3, d4] => { results := [.lit (.bool false)], args := [d1, d2, d3, d4] }
  | _ => none }
def RawNumbersWrongFalsely : Prop := rawNumbersRow.holds Try.pinned (OpenSpec.ofChange rawNumbersWrong)

/-- 'bedrocklaw1.RawQuoted': WHATEVER THE INPUT: true; the input reads as it did. -/
def rawQuotedSpec : ChangeSpec := { name := "rawQuoted", fn := fun _ => fun
  | [d] => { results := [.lit (.bool true)], args := [d] }
  | _ => none }
def rawQuotedRow : OpenClaim := { program := "ytioddambldnfnaa", sum := "d49d56f980c867324430b42ae270cecb395f98ea108fbd2a465d8b8e35244ac3", func := "bedrock/bedrocklaw1.RawQuoted", spec := "rawQuoted", unfollowed := true, recurses := true, apart := false }
def RawQuotedSaid : Prop := rawQuotedRow.holds Try.pinned (OpenSpec.ofChange rawQuotedSpec)

/-- ITS FALSE NEIGHBOUR: 'it returns false'. Refute it at one input. -/
def rawQuotedWrong : ChangeSpec := { name := "rawQuoted", fn := fun _ => fun
  | [d] => { results := [.lit (.bool false)], args := [d] }
  | _ => none }
def RawQuotedWrongFalsely : Prop := rawQuotedRow.holds Try.pinned (OpenSpec.ofChange rawQuotedWrong)

/-- 'bedrocklaw1.RawBytes': WHATEVER THE INPUT: true; the input reads as it did. -/
def rawBytesSpec : ChangeSpec := { name := "rawBytes", fn := fun _ => fun
  | [d1, d2] => { results := [.lit (.bool true)], args := [d1, d2] }
  | _ => none }
def rawBytesRow : OpenClaim := { program := "ytioddambldnfnaa", sum := "d49d56f980c867324430b42ae270cecb395f98ea108fbd2a465d8b8e35244ac3", func := "bedrock/bedrocklaw1.RawBytes", spec := "rawBytes", inPlace := ["internal/bytealg.abigen_runtime_cmpstring"], unfollowed := true, recurses := true, apart := false }
def RawBytesSaid : Prop := rawBytesRow.holds Try.pinned (OpenSpec.ofChange rawBytesSpec)

/-- ITS FALSE NEIGHBOUR: 'it returns false'. Refute it at one input. -/
def rawBytesWrong : ChangeSpec := { name := "rawBytes", fn := fun _ => fun
  | [d1, d2] => { results := [.lit (.bool false)], args := [d1, d2] }
  | _ => none }
def RawBytesWrongFalsely : Prop := rawBytesRow.holds Try.pinned (OpenSpec.ofChange rawBytesWrong)

/-- 'bedrocklaw1.RawBack': WHATEVER THE INPUT: true; the input reads as it did. -/
def rawBackSpec : ChangeSpec := { name := "rawBack", fn := fun _ => fun
  | [d1, d2, d3, d4] => { results := [.lit (.bool true)], args := [d1, d2, d3, d4] }
  | _ => none }
def rawBackRow : OpenClaim := { program := "ytioddambldnfnaa", sum := "d49d56f980c867324430b42ae270cecb395f98ea108fbd2a465d8b8e35244ac3", func := "bedrock/bedrocklaw1.RawBack", spec := "rawBack", unfollowed := true, recurses := true, apart := false }
def RawBackSaid : Prop := rawBackRow.holds Try.pinned (OpenSpec.ofChange rawBackSpec)

/-- ITS FALSE NEIGHBOUR: 'it returns false'. Refute it at one input. -/
def rawBackWrong : ChangeSpec := { name := "rawBack", fn := fun _ => fun
  | [d1, d2, d3, d4] => { results := [.lit (.bool false)], args := [d1, d2, d3, d4] }
  | _ => none }
def RawBackWrongFalsely : Prop := rawBackRow.holds Try.pinned (OpenSpec.ofChange rawBackWrong)

/- THE SECOND FORM. 'bulk': how many values and letters a reading holds, each counted each time it is reached (what is shared counts as often as it is met; a slice's spare places count too). A statement '..UptoSaid' is the law's where the arguments, and the package variables that the reading takes, are together of bulk at most 1048576: NARROWER than '..Said'. Prove '..Said' where nothing that the law and all that it calls make is longer than what came in: it says more and counts as full. Else prove '..UptoSaid'. A law counts once. -/
mutual
def uptoBulk {H : Type} : DataW H → Nat
  | .lit (.string bytes) => bytes.length + 1
  | .lit _ => 1
  | .nil => 1
  | .ptr d => uptoBulk d + 1
  | .slice elems spare => uptoBulkAll elems + uptoBulkAll spare + 1
  | .agg parts => uptoBulkAll parts + 1
  | .iface _ d => uptoBulk d + 1
  | .map entries => uptoBulkEntries entries + 1
  | .held _ => 1
def uptoBulkAll {H : Type} : List (DataW H) → Nat
  | [] => 0
  | d :: r => uptoBulk d + uptoBulkAll r
def uptoBulkEntries {H : Type} : List (Lit × DataW H) → Nat
  | [] => 0
  | x :: r => uptoBulkEntry x + uptoBulkEntries r
def uptoBulkEntry {H : Type} : Lit × DataW H → Nat
  | (.string bytes, d) => bytes.length + uptoBulk d + 1
  | (_, d) => uptoBulk d + 1
 end
def uptoSmall : (H : Type) → List (DataW H) → Bool := fun _ ds => decide (uptoBulkAll ds ≤ 1048576)
def OpenSpec.upto (s : _root_.Go.ChangeSpec) : _root_.Go.OpenSpec := { _root_.Go.OpenSpec.ofChange s with cond := some uptoSmall }

/-- 'bedrocklaw1.RawChanged', WHERE WHAT IT READS IS OF BULK AT MOST 1048576: true; the input reads as it did. -/
def rawChangedUptoRow : OpenClaim := { program := "ytioddambldnfnaa", sum := "d49d56f980c867324430b42ae270cecb395f98ea108fbd2a465d8b8e35244ac3", func := "bedrock/bedrocklaw1.RawChanged", spec := "rawChanged", unfollowed := true, recurses := true, apart := false, narrowed := true }
def RawChangedUptoSaid : Prop := rawChangedUptoRow.holds Try.pinned (OpenSpec.upto rawChangedSpec)

/-- 'bedrocklaw1.RawOrder', WHERE WHAT IT READS IS OF BULK AT MOST 1048576: true; the input reads as it did. -/
def rawOrderUptoRow : OpenClaim := { program := "ytioddambldnfnaa", sum := "d49d56f980c867324430b42ae270cecb395f98ea108fbd2a465d8b8e35244ac3", func := "bedrock/bedrocklaw1.RawOrder", spec := "rawOrder", inPlace := ["internal/bytealg.abigen_runtime_cmpstring"], unfollowed := true, recurses := true, apart := false, narrowed := true }
def RawOrderUptoSaid : Prop := rawOrderUptoRow.holds Try.pinned (OpenSpec.upto rawOrderSpec)

/-- 'bedrocklaw1.RawVars', WHERE WHAT IT READS IS OF BULK AT MOST 1048576: true; the input reads as it did. -/
def rawVarsUptoRow : OpenClaim := { program := "ytioddambldnfnaa", sum := "d49d56f980c867324430b42ae270cecb395f98ea108fbd2a465d8b8e35244ac3", func := "bedrock/bedrocklaw1.RawVars", spec := "rawVars", unfollowed := true, recurses := true, apart := false, narrowed := true }
def RawVarsUptoSaid : Prop := rawVarsUptoRow.holds Try.pinned (OpenSpec.upto rawVarsSpec)

/-- 'bedrocklaw1.RawShort', WHERE WHAT IT READS IS OF BULK AT MOST 1048576: true; the input reads as it did. -/
def rawShortUptoRow : OpenClaim := { program := "ytioddambldnfnaa", sum := "d49d56f980c867324430b42ae270cecb395f98ea108fbd2a465d8b8e35244ac3", func := "bedrock/bedrocklaw1.RawShort", spec := "rawShort", unfollowed := true, recurses := true, apart := false, narrowed := true }
def RawShortUptoSaid : Prop := rawShortUptoRow.holds Try.pinned (OpenSpec.upto rawShortSpec)

/-- 'bedrocklaw1.RawNumbers', WHERE WHAT IT READS IS OF BULK AT MOST 1048576: true; the input reads as it did. -/
def rawNumbersUptoRow : OpenClaim := { program := "ytioddambldnfnaa", sum := "d49d56f980c867324430b42ae270cecb395f98ea108fbd2a465d8b8e35244ac3", func := "bedrock/bedrocklaw1.RawNumbers", spec := "rawNumbers", unfollowed := true, recurses := true, apart := false, narrowed := true }
def RawNumbersUptoSaid : Prop := rawNumbersUptoRow.holds Try.pinned (OpenSpec.upto rawNumbersSpec)

/-- 'bedrocklaw1.RawQuoted', WHERE WHAT IT READS IS OF BULK AT MOST 1048576: true; the input reads as it did. -/
def rawQuotedUptoRow : OpenClaim := { program := "ytioddambldnfnaa", sum := "d49d56f980c867324430b42ae270cecb395f98ea108fbd2a465d8b8e35244ac3", func := "bedrock/bedrocklaw1.RawQuoted", spec := "rawQuoted", unfollowed := true, recurses := true, apart := false, narrowed := true }
def RawQuotedUptoSaid : Prop := rawQuotedUptoRow.holds Try.pinned (OpenSpec.upto rawQuotedSpec)

/-- 'bedrocklaw1.RawBytes', WHERE WHAT IT READS IS OF BULK AT MOST 1048576: true; the input reads as it did. -/
def rawBytesUptoRow : OpenClaim := { program := "ytioddambldnfnaa", sum := "d49d56f980c867324430b42ae270cecb395f98ea108fbd2a465d8b8e35244ac3", func := "bedrock/bedrocklaw1.RawBytes", spec := "rawBytes", inPlace := ["internal/bytealg.abigen_runtime_cmpstring"], unfollowed := true, recurses := true, apart := false, narrowed := true }
def RawBytesUptoSaid : Prop := rawBytesUptoRow.holds Try.pinned (OpenSpec.upto rawBytesSpec)

/-- 'bedrocklaw1.RawBack', WHERE WHAT IT READS IS OF BULK AT MOST 1048576: true; the input reads as it did. -/
def rawBackUptoRow : OpenClaim := { program := "ytioddambldnfnaa", sum := "d49d56f980c867324430b42ae270cecb395f98ea108fbd2a465d8b8e35244ac3", func := "bedrock/bedrocklaw1.RawBack", spec := "rawBack", unfollowed := true, recurses := true, apart := false, narrowed := true }
def RawBackUptoSaid : Prop := rawBackUptoRow.holds Try.pinned (OpenSpec.upto rawBackSpec)

end Rows
end Go.Proofs.Ytioddambldnfnaa
