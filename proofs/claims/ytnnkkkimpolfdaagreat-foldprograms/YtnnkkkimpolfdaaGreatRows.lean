/-
  No cell of these rows narrows 'for every input' (looked for: loops, veiled, ifaces, maps, wideKeys, modest, calm, conditions, laid).
  DERIVED. THE GIVEN ROWS OF THIS SEAT. 5 by the template 'for every input the law returns true; each argument reads behind the call as it read before'; 0 by the template 'total and deterministic' (their statements: YtnnkkkimpolfdaaGreatTotals.lean).
  GIVEN WITH THE SEED: the statements are not yours to turn. If you find one false, say at which input.
  Laid BY PROGRAM, IN A SANDBOX (cutbox-rows.mjs): the forced cells as the released guide's own fill.sh prints them over the translation cf270734d8f945c3… (all of the seat's roots in one cut). By AI agents, Wed Nov 11 2026. No macro, syntax, notation, axiom, sorry.
-/
import Derived.Test.YtnnkkkimpolfdaaGreatChecked
import GoSem.Claim
import GoSem.ClaimJoined
import GoSem.ClaimMapViews
import Derived.JoinedTies
import Derived.KernelRfl
namespace Go.Proofs.YtnnkkkimpolfdaaGreat
/- THE CELL 'sum', in the pinned program and in every row, IS THE sha256 OF THE DUMP (.gsa) THAT YtnnkkkimpolfdaaGreatProg.lean LOADS. Nothing in Lean hashes anything: it is a label: what it is worth is what the hold of that sum in a sandbox is worth. -/
noncomputable def Tryz.pinned : Pinned := { name := "ytnnkkkimpolfdaagreat", sum := "cf270734d8f945c3a9a36379828f707ca434c1c4f29a037fba397489a602478f", checked := Tryz.checked }
namespace Rows
def none {H : Type} : Left H := { results := [], args := [] }

/-- 'soughlaw47.PruneMakes': WHATEVER THE INPUT: true; the input reads as it did. -/
def pruneMakesSpec : ChangeSpec := { name := "pruneMakes", fn := fun _ => fun
  | [d] => { results := [.lit (.bool true)], args := [d] }
  | _ => none }
def pruneMakesRow : OpenClaim := { program := "ytnnkkkimpolfdaagreat", sum := "cf270734d8f945c3a9a36379828f707ca434c1c4f29a037fba397489a602478f", func := "sough/soughlaw47.PruneMakes", spec := "pruneMakes", inPlace := ["slices.overlaps[string]"], unfollowed := true, recurses := true, apart := false }
def PruneMakesSaid : Prop := pruneMakesRow.holds Tryz.pinned (OpenSpec.ofChange pruneMakesSpec)

/-- ITS FALSE NEIGHBOUR: 'it returns false'. Refute it at one input. -/
def pruneMakesWrong : ChangeSpec := { name := "pruneMakes", fn := fun _ => fun
  | [d] => { results := [.lit (.bool false)], args := [d] }
  | _ => none }
def PruneMakesWrongFalsely : Prop := pruneMakesRow.holds Tryz.pinned (OpenSpec.ofChange pruneMakesWrong)

/-- 'soughlaw47.PruneMerges': WHATEVER THE INPUT: true; the input reads as it did. -/
def pruneMergesSpec : ChangeSpec := { name := "pruneMerges", fn := fun _ => fun
  | [d] => { results := [.lit (.bool true)], args := [d] }
  | _ => none }
def pruneMergesRow : OpenClaim := { program := "ytnnkkkimpolfdaagreat", sum := "cf270734d8f945c3a9a36379828f707ca434c1c4f29a037fba397489a602478f", func := "sough/soughlaw47.PruneMerges", spec := "pruneMerges", inPlace := ["slices.overlaps[string]"], unfollowed := true, recurses := true, apart := false }
def PruneMergesSaid : Prop := pruneMergesRow.holds Tryz.pinned (OpenSpec.ofChange pruneMergesSpec)

/-- ITS FALSE NEIGHBOUR: 'it returns false'. Refute it at one input. -/
def pruneMergesWrong : ChangeSpec := { name := "pruneMerges", fn := fun _ => fun
  | [d] => { results := [.lit (.bool false)], args := [d] }
  | _ => none }
def PruneMergesWrongFalsely : Prop := pruneMergesRow.holds Tryz.pinned (OpenSpec.ofChange pruneMergesWrong)

/-- 'soughlaw41.PropSystems': WHATEVER THE INPUT: true; the input reads as it did. -/
def propSystemsSpec : ChangeSpec := { name := "propSystems", fn := fun _ => fun
  | [d1, d2] => { results := [.lit (.bool true)], args := [d1, d2] }
  | _ => none }
def propSystemsRow : OpenClaim := { program := "ytnnkkkimpolfdaagreat", sum := "cf270734d8f945c3a9a36379828f707ca434c1c4f29a037fba397489a602478f", func := "sough/soughlaw41.PropSystems", spec := "propSystems", inPlace := ["slices.overlaps[string]"], unfollowed := true, recurses := true, apart := false }
def PropSystemsSaid : Prop := propSystemsRow.holds Tryz.pinned (OpenSpec.ofChange propSystemsSpec)

/-- ITS FALSE NEIGHBOUR: 'it returns false'. Refute it at one input. -/
def propSystemsWrong : ChangeSpec := { name := "propSystems", fn := fun _ => fun
  | [d1, d2] => { results := [.lit (.bool false)], args := [d1, d2] }
  | _ => none }
def PropSystemsWrongFalsely : Prop := propSystemsRow.holds Tryz.pinned (OpenSpec.ofChange propSystemsWrong)

/-- 'soughlaw41.PropSets': WHATEVER THE INPUT: true; the input reads as it did. -/
def propSetsSpec : ChangeSpec := { name := "propSets", fn := fun _ => fun
  | [d1, d2, d3] => { results := [.lit (.bool true)], args := [d1, d2, d3] }
  | _ => none }
def propSetsRow : OpenClaim := { program := "ytnnkkkimpolfdaagreat", sum := "cf270734d8f945c3a9a36379828f707ca434c1c4f29a037fba397489a602478f", func := "sough/soughlaw41.PropSets", spec := "propSets", inPlace := ["slices.overlaps[string]"], unfollowed := true, recurses := true, apart := false }
def PropSetsSaid : Prop := propSetsRow.holds Tryz.pinned (OpenSpec.ofChange propSetsSpec)

/-- ITS FALSE NEIGHBOUR: 'it returns false'. Refute it at one input. -/
def propSetsWrong : ChangeSpec := { name := "propSets", fn := fun _ => fun
  | [d1, d2, d3] => { results := [.lit (.bool false)], args := [d1, d2, d3] }
  | _ => none }
def PropSetsWrongFalsely : Prop := propSetsRow.holds Tryz.pinned (OpenSpec.ofChange propSetsWrong)

/-- 'soughlaw45.FoldPrograms': WHATEVER THE INPUT: true; the input reads as it did. -/
def foldProgramsSpec : ChangeSpec := { name := "foldPrograms", fn := fun _ => fun
  | [d] => { results := [.lit (.bool true)], args := [d] }
  | _ => none }
def foldProgramsRow : OpenClaim := { program := "ytnnkkkimpolfdaagreat", sum := "cf270734d8f945c3a9a36379828f707ca434c1c4f29a037fba397489a602478f", func := "sough/soughlaw45.FoldPrograms", spec := "foldPrograms", inPlace := ["slices.overlaps[string]"], unfollowed := true, recurses := true, apart := false }
def FoldProgramsSaid : Prop := foldProgramsRow.holds Tryz.pinned (OpenSpec.ofChange foldProgramsSpec)

/-- ITS FALSE NEIGHBOUR: 'it returns false'. Refute it at one input. -/
def foldProgramsWrong : ChangeSpec := { name := "foldPrograms", fn := fun _ => fun
  | [d] => { results := [.lit (.bool false)], args := [d] }
  | _ => none }
def FoldProgramsWrongFalsely : Prop := foldProgramsRow.holds Tryz.pinned (OpenSpec.ofChange foldProgramsWrong)

/- THE SECOND FORM. 'bulk': how many values and letters a reading holds, each counted each time it is reached (what is shared counts as often as it is met; a slice's spare places count too). A statement '..UptoSaid' is the law's where the arguments, and the package variables that the reading takes, are together of bulk at most 1048576: NARROWER than '..Said'. Prove '..Said' where nothing that the law and all that it calls make is longer than what came in: it says more and counts as full. Else prove '..UptoSaid'. A law counts once. -/
mutual
def uptoBulk {H : Type} : DataW H → Nat
  | .lit (.string bytes) => bytes.length + 1
  | .lit _ => 1
  | .nil => 1
  | .ptr d => uptoBulk d + 1
  | .slice elems spare => uptoBulkAll elems + uptoBulkAll spare + 1
  | .agg parts => uptoBulkAll parts + 1
  | .iface _ d => uptoBulk d + 1
  | .map entries => uptoBulkEntries entries + 1
  | .held _ => 1
def uptoBulkAll {H : Type} : List (DataW H) → Nat
  | [] => 0
  | d :: r => uptoBulk d + uptoBulkAll r
def uptoBulkEntries {H : Type} : List (Lit × DataW H) → Nat
  | [] => 0
  | x :: r => uptoBulkEntry x + uptoBulkEntries r
def uptoBulkEntry {H : Type} : Lit × DataW H → Nat
  | (.string bytes, d) => bytes.length + uptoBulk d + 1
  | (_, d) => uptoBulk d + 1
 end
def uptoSmall : (H : Type) → List (DataW H) → Bool := fun _ ds => decide (uptoBulkAll ds ≤ 1048576)
def OpenSpec.upto (s : _root_.Go.ChangeSpec) : _root_.Go.OpenSpec := { _root_.Go.OpenSpec.ofChange s with cond := some uptoSmall }

/-- 'soughlaw47.PruneMakes', WHERE WHAT IT READS IS OF BULK AT MOST 1048576: true; the input reads as it did. -/
def pruneMakesUptoRow : OpenClaim := { program := "ytnnkkkimpolfdaagreat", sum := "cf270734d8f945c3a9a36379828f707ca434c1c4f29a037fba397489a602478f", func := "sough/soughlaw47.PruneMakes", spec := "pruneMakes", inPlace := ["slices.overlaps[string]"], unfollowed := true, recurses := true, apart := false, narrowed := true }
def PruneMakesUptoSaid : Prop := pruneMakesUptoRow.holds Tryz.pinned (OpenSpec.upto pruneMakesSpec)

/-- 'soughlaw47.PruneMerges', WHERE WHAT IT READS IS OF BULK AT MOST 1048576: true; the input reads as it did. -/
def pruneMergesUptoRow : OpenClaim := { program := "ytnnkkkimpolfdaagreat", sum := "cf270734d8f945c3a9a36379828f707ca434c1c4f29a037fba397489a602478f", func := "sough/soughlaw47.PruneMerges", spec := "pruneMerges", inPlace := ["slices.overlaps[string]"], unfollowed := true, recurses := true, apart := false, narrowed := true }
def PruneMergesUptoSaid : Prop := pruneMergesUptoRow.holds Tryz.pinned (OpenSpec.upto pruneMergesSpec)

/-- 'soughlaw41.PropSystems', WHERE WHAT IT READS IS OF BULK AT MOST 1048576: true; the input reads as it did. -/
def propSystemsUptoRow : OpenClaim := { program := "ytnnkkkimpolfdaagreat", sum := "cf270734d8f945c3a9a36379828f707ca434c1c4f29a037fba397489a602478f", func := "sough/soughlaw41.PropSystems", spec := "propSystems", inPlace := ["slices.overlaps[string]"], unfollowed := true, recurses := true, apart := false, narrowed := true }
def PropSystemsUptoSaid : Prop := propSystemsUptoRow.holds Tryz.pinned (OpenSpec.upto propSystemsSpec)

/-- 'soughlaw41.PropSets', WHERE WHAT IT READS IS OF BULK AT MOST 1048576: true; the input reads as it did. -/
def propSetsUptoRow : OpenClaim := { program := "ytnnkkkimpolfdaagreat", sum := "cf270734d8f945c3a9a36379828f707ca434c1c4f29a037fba397489a602478f", func := "sough/soughlaw41.PropSets", spec := "propSets", inPlace := ["slices.overlaps[string]"], unfollowed := true, recurses := true, apart := false, narrowed := true }
def PropSetsUptoSaid : Prop := propSetsUptoRow.holds Tryz.pinned (OpenSpec.upto propSetsSpec)

/-- 'soughlaw45.FoldPrograms', WHERE WHAT IT READS IS OF BULK AT MOST 1048576: true; the input reads as it did. -/
def foldProgramsUptoRow : OpenClaim := { program := "ytnnkkkimpolfdaagreat", sum := "cf270734d8f945c3a9a36379828f707ca434c1c4f29a037fba397489a602478f", func := "sough/soughlaw45.FoldPrograms", spec := "foldPrograms", inPlace := ["slices.overlaps[string]"], unfollowed := true, recurses := true, apart := false, narrowed := true }
def FoldProgramsUptoSaid : Prop := foldProgramsUptoRow.holds Tryz.pinned (OpenSpec.upto foldProgramsSpec)

end Rows
end Go.Proofs.YtnnkkkimpolfdaaGreat
