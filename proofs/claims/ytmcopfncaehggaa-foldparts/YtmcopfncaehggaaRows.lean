/-
  No cell of these rows narrows 'for every input' (looked for: loops, veiled, ifaces, maps, wideKeys, modest, calm, conditions, laid).
  DERIVED. THE GIVEN ROWS OF THIS SEAT. 6 by the template 'for every input the law returns true; each argument reads behind the call as it read before'; 0 by the template 'total and deterministic' (their statements: YtmcopfncaehggaaTotals.lean).
  GIVEN WITH THE SEED: the statements are not yours to turn. If you find one false, say at which input.
  Laid BY PROGRAM, IN A SANDBOX (cutbox-rows.mjs): the forced cells as the released guide's own fill.sh prints them over the translation 8a77cdd445e78d62… (all of the seat's roots in one cut). By AI agents, Wed Nov 11 2026. No macro, syntax, notation, axiom, sorry.
-/
import Derived.Test.YtmcopfncaehggaaChecked
import GoSem.Claim
import GoSem.ClaimJoined
import GoSem.ClaimMapViews
import Derived.JoinedTies
import Derived.KernelRfl
namespace Go.Proofs.Ytmcopfncaehggaa
/- THE CELL 'sum', in the pinned program and in every row, IS THE sha256 OF THE DUMP (.gsa) THAT YtmcopfncaehggaaProg.lean LOADS. Nothing in Lean hashes anything: it is a label: what it is worth is what the hold of that sum in a sandbox is worth. -/
noncomputable def Try.pinned : Pinned := { name := "ytmcopfncaehggaa", sum := "8a77cdd445e78d62baefaf52fca39c72043a5eecf84e5166b42cebc5f79835e8", checked := Try.checked }
namespace Rows
def none {H : Type} : Left H := { results := [], args := [] }

/-- 'soughlaw42.ClientNames': WHATEVER THE INPUT: true; the input reads as it did. -/
def clientNamesSpec : ChangeSpec := { name := "clientNames", fn := fun _ => fun
  | [d1, d2, d3, d4] => { results := [.lit (.bool true)], args := [d1, d2, d3, d4] }
  | _ => none }
def clientNamesRow : OpenClaim := { program := "ytmcopfncaehggaa", sum := "8a77cdd445e78d62baefaf52fca39c72043a5eecf84e5166b42cebc5f79835e8", func := "sough/soughlaw42.ClientNames", spec := "clientNames", unfollowed := true, recurses := true, apart := false }
def ClientNamesSaid : Prop := clientNamesRow.holds Try.pinned (OpenSpec.ofChange clientNamesSpec)

/-- ITS FALSE NEIGHBOUR: 'it returns false'. Refute it at one input. -/
def clientNamesWrong : ChangeSpec := { name := "clientNames", fn := fun _ => fun
  | [d1, d2, d3, d4] => { results := [.lit (.bool false)], args := [d1, d2, d3, d4] }
  | _ => none }
def ClientNamesWrongFalsely : Prop := clientNamesRow.holds Try.pinned (OpenSpec.ofChange clientNamesWrong)

/-- 'soughlaw43.RenderTexts': WHATEVER THE INPUT: true; the input reads as it did. -/
def renderTextsSpec : ChangeSpec := { name := "renderTexts", fn := fun _ => fun
  | [d] => { results := [.lit (.bool true)], args := [d] }
  | _ => none }
def renderTextsRow : OpenClaim := { program := "ytmcopfncaehggaa", sum := "8a77cdd445e78d62baefaf52fca39c72043a5eecf84e5166b42cebc5f79835e8", func := "sough/soughlaw43.RenderTexts", spec := "renderTexts", inPlace := ["internal/abi.NoEscape"], unfollowed := true, recurses := true, apart := false }
def RenderTextsSaid : Prop := renderTextsRow.holds Try.pinned (OpenSpec.ofChange renderTextsSpec)

/-- ITS FALSE NEIGHBOUR: 'it returns false'. Refute it at one input. -/
def renderTextsWrong : ChangeSpec := { name := "renderTexts", fn := fun _ => fun
  | [d] => { results := [.lit (.bool false)], args := [d] }
  | _ => none }
def RenderTextsWrongFalsely : Prop := renderTextsRow.holds Try.pinned (OpenSpec.ofChange renderTextsWrong)

/-- 'soughlaw26.FairIs': WHATEVER THE INPUT: true; the input reads as it did. -/
def fairIsSpec : ChangeSpec := { name := "fairIs", fn := fun _ => fun
  | [d1, d2, d3] => { results := [.lit (.bool true)], args := [d1, d2, d3] }
  | _ => none }
def fairIsRow : OpenClaim := { program := "ytmcopfncaehggaa", sum := "8a77cdd445e78d62baefaf52fca39c72043a5eecf84e5166b42cebc5f79835e8", func := "sough/soughlaw26.FairIs", spec := "fairIs", inPlace := ["internal/abi.NoEscape", "internal/bytealg.MakeNoZero"], recurses := true, apart := false }
def FairIsSaid : Prop := fairIsRow.holds Try.pinned (OpenSpec.ofChange fairIsSpec)

/-- ITS FALSE NEIGHBOUR: 'it returns false'. Refute it at one input. -/
def fairIsWrong : ChangeSpec := { name := "fairIs", fn := fun _ => fun
  | [d1, d2, d3] => { results := [.lit (.bool false)], args := [d1, d2, d3] }
  | _ => none }
def FairIsWrongFalsely : Prop := fairIsRow.holds Try.pinned (OpenSpec.ofChange fairIsWrong)

/-- 'soughlaw26.FairMakes': WHATEVER THE INPUT: true; the input reads as it did. -/
def fairMakesSpec : ChangeSpec := { name := "fairMakes", fn := fun _ => fun
  | [d1, d2, d3] => { results := [.lit (.bool true)], args := [d1, d2, d3] }
  | _ => none }
def fairMakesRow : OpenClaim := { program := "ytmcopfncaehggaa", sum := "8a77cdd445e78d62baefaf52fca39c72043a5eecf84e5166b42cebc5f79835e8", func := "sough/soughlaw26.FairMakes", spec := "fairMakes", inPlace := ["internal/abi.NoEscape", "internal/bytealg.MakeNoZero"], recurses := true, apart := false }
def FairMakesSaid : Prop := fairMakesRow.holds Try.pinned (OpenSpec.ofChange fairMakesSpec)

/-- ITS FALSE NEIGHBOUR: 'it returns false'. Refute it at one input. -/
def fairMakesWrong : ChangeSpec := { name := "fairMakes", fn := fun _ => fun
  | [d1, d2, d3] => { results := [.lit (.bool false)], args := [d1, d2, d3] }
  | _ => none }
def FairMakesWrongFalsely : Prop := fairMakesRow.holds Try.pinned (OpenSpec.ofChange fairMakesWrong)

/-- 'soughlaw26.FairRounds': WHATEVER THE INPUT: true; the input reads as it did. -/
def fairRoundsSpec : ChangeSpec := { name := "fairRounds", fn := fun _ => fun
  | [d1, d2, d3] => { results := [.lit (.bool true)], args := [d1, d2, d3] }
  | _ => none }
def fairRoundsRow : OpenClaim := { program := "ytmcopfncaehggaa", sum := "8a77cdd445e78d62baefaf52fca39c72043a5eecf84e5166b42cebc5f79835e8", func := "sough/soughlaw26.FairRounds", spec := "fairRounds", inPlace := ["internal/abi.NoEscape", "internal/bytealg.MakeNoZero"], recurses := true, apart := false }
def FairRoundsSaid : Prop := fairRoundsRow.holds Try.pinned (OpenSpec.ofChange fairRoundsSpec)

/-- ITS FALSE NEIGHBOUR: 'it returns false'. Refute it at one input. -/
def fairRoundsWrong : ChangeSpec := { name := "fairRounds", fn := fun _ => fun
  | [d1, d2, d3] => { results := [.lit (.bool false)], args := [d1, d2, d3] }
  | _ => none }
def FairRoundsWrongFalsely : Prop := fairRoundsRow.holds Try.pinned (OpenSpec.ofChange fairRoundsWrong)

/-- 'soughlaw45.FoldParts': WHATEVER THE INPUT: true; the input reads as it did. -/
def foldPartsSpec : ChangeSpec := { name := "foldParts", fn := fun _ => fun
  | [d1, d2, d3] => { results := [.lit (.bool true)], args := [d1, d2, d3] }
  | _ => none }
def foldPartsRow : OpenClaim := { program := "ytmcopfncaehggaa", sum := "8a77cdd445e78d62baefaf52fca39c72043a5eecf84e5166b42cebc5f79835e8", func := "sough/soughlaw45.FoldParts", spec := "foldParts", inPlace := ["slices.overlaps[string]"], unfollowed := true, recurses := true, apart := false }
def FoldPartsSaid : Prop := foldPartsRow.holds Try.pinned (OpenSpec.ofChange foldPartsSpec)

/-- ITS FALSE NEIGHBOUR: 'it returns false'. Refute it at one input. -/
def foldPartsWrong : ChangeSpec := { name := "foldParts", fn := fun _ => fun
  | [d1, d2, d3] => { results := [.lit (.bool false)], args := [d1, d2, d3] }
  | _ => none }
def FoldPartsWrongFalsely : Prop := foldPartsRow.holds Try.pinned (OpenSpec.ofChange foldPartsWrong)

/- THE SECOND FORM. 'bulk': how many values and letters a reading holds, each counted each time it is reached (what is shared counts as often as it is met; a slice's spare places count too). A statement '..UptoSaid' is the law's where the arguments, and the package variables that the reading takes, are together of bulk at most 1048576: NARROWER than '..Said'. Prove '..Said' where nothing that the law and all that it calls make is longer than what came in: it says more and counts as full. Else prove '..UptoSaid'. A law counts once. -/
mutual
def uptoBulk {H : Type} : DataW H → Nat
  | .lit (.string bytes) => bytes.length + 1
  | .lit _ => 1
  | .nil => 1
  | .ptr d => uptoBulk d + 1
  | .slice elems spare => uptoBulkAll elems + uptoBulkAll spare + 1
  | .agg parts => uptoBulkAll parts + 1
  | .iface _ d => uptoBulk d + 1
  | .map entries => uptoBulkEntries entries + 1
  | .held _ => 1
def uptoBulkAll {H : Type} : List (DataW H) → Nat
  | [] => 0
  | d :: r => uptoBulk d + uptoBulkAll r
def uptoBulkEntries {H : Type} : List (Lit × DataW H) → Nat
  | [] => 0
  | x :: r => uptoBulkEntry x + uptoBulkEntries r
def uptoBulkEntry {H : Type} : Lit × DataW H → Nat
  | (.string bytes, d) => bytes.length + uptoBulk d + 1
  | (_, d) => uptoBulk d + 1
 end
def uptoSmall : (H : Type) → List (DataW H) → Bool := fun _ ds => decide (uptoBulkAll ds ≤ 1048576)
def OpenSpec.upto (s : _root_.Go.ChangeSpec) : _root_.Go.OpenSpec := { _root_.Go.OpenSpec.ofChange s with cond := some uptoSmall }

/-- 'soughlaw42.ClientNames', WHERE WHAT IT READS IS OF BULK AT MOST 1048576: true; the input reads as it did. -/
def clientNamesUptoRow : OpenClaim := { program := "ytmcopfncaehggaa", sum := "8a77cdd445e78d62baefaf52fca39c72043a5eecf84e5166b42cebc5f79835e8", func := "sough/soughlaw42.ClientNames", spec := "clientNames", unfollowed := true, recurses := true, apart := false, narrowed := true }
def ClientNamesUptoSaid : Prop := clientNamesUptoRow.holds Try.pinned (OpenSpec.upto clientNamesSpec)

/-- 'soughlaw43.RenderTexts', WHERE WHAT IT READS IS OF BULK AT MOST 1048576: true; the input reads as it did. -/
def renderTextsUptoRow : OpenClaim := { program := "ytmcopfncaehggaa", sum := "8a77cdd445e78d62baefaf52fca39c72043a5eecf84e5166b42cebc5f79835e8", func := "sough/soughlaw43.RenderTexts", spec := "renderTexts", inPlace := ["internal/abi.NoEscape"], unfollowed := true, recurses := true, apart := false, narrowed := true }
def RenderTextsUptoSaid : Prop := renderTextsUptoRow.holds Try.pinned (OpenSpec.upto renderTextsSpec)

/-- 'soughlaw26.FairIs', WHERE WHAT IT READS IS OF BULK AT MOST 1048576: true; the input reads as it did. -/
def fairIsUptoRow : OpenClaim := { program := "ytmcopfncaehggaa", sum := "8a77cdd445e78d62baefaf52fca39c72043a5eecf84e5166b42cebc5f79835e8", func := "sough/soughlaw26.FairIs", spec := "fairIs", inPlace := ["internal/abi.NoEscape", "internal/bytealg.MakeNoZero"], recurses := true, apart := false, narrowed := true }
def FairIsUptoSaid : Prop := fairIsUptoRow.holds Try.pinned (OpenSpec.upto fairIsSpec)

/-- 'soughlaw26.FairMakes', WHERE WHAT IT READS IS OF BULK AT MOST 1048576: true; the input reads as it did. -/
def fairMakesUptoRow : OpenClaim := { program := "ytmcopfncaehggaa", sum := "8a77cdd445e78d62baefaf52fca39c72043a5eecf84e5166b42cebc5f79835e8", func := "sough/soughlaw26.FairMakes", spec := "fairMakes", inPlace := ["internal/abi.NoEscape", "internal/bytealg.MakeNoZero"], recurses := true, apart := false, narrowed := true }
def FairMakesUptoSaid : Prop := fairMakesUptoRow.holds Try.pinned (OpenSpec.upto fairMakesSpec)

/-- 'soughlaw26.FairRounds', WHERE WHAT IT READS IS OF BULK AT MOST 1048576: true; the input reads as it did. -/
def fairRoundsUptoRow : OpenClaim := { program := "ytmcopfncaehggaa", sum := "8a77cdd445e78d62baefaf52fca39c72043a5eecf84e5166b42cebc5f79835e8", func := "sough/soughlaw26.FairRounds", spec := "fairRounds", inPlace := ["internal/abi.NoEscape", "internal/bytealg.MakeNoZero"], recurses := true, apart := false, narrowed := true }
def FairRoundsUptoSaid : Prop := fairRoundsUptoRow.holds Try.pinned (OpenSpec.upto fairRoundsSpec)

/-- 'soughlaw45.FoldParts', WHERE WHAT IT READS IS OF BULK AT MOST 1048576: true; the input reads as it did. -/
def foldPartsUptoRow : OpenClaim := { program := "ytmcopfncaehggaa", sum := "8a77cdd445e78d62baefaf52fca39c72043a5eecf84e5166b42cebc5f79835e8", func := "sough/soughlaw45.FoldParts", spec := "foldParts", inPlace := ["slices.overlaps[string]"], unfollowed := true, recurses := true, apart := false, narrowed := true }
def FoldPartsUptoSaid : Prop := foldPartsUptoRow.holds Try.pinned (OpenSpec.upto foldPartsSpec)

end Rows
end Go.Proofs.Ytmcopfncaehggaa
