/-
  NARROWER THAN 'FOR EVERY INPUT', by the rows' own cells (each row's printed sentence says how): AvailSystems: laid · AvailSets: laid · ReachSystems: laid · ReachSets: laid · AvailRuns: laid · ReachRuns: laid · LiveSystems: laid · LiveSets: laid · LiveRuns: laid.
  DERIVED. THE GIVEN ROWS OF THIS SEAT. 9 by the template 'for every input the law returns true; each argument reads behind the call as it read before'; 0 by the template 'total and deterministic' (their statements: YtpcgdleccebjpaaGreatDoorTotals.lean).
  GIVEN WITH THE SEED: the statements are not yours to turn. If you find one false, say at which input.
  Laid BY PROGRAM, IN A SANDBOX (cutbox-rows.mjs): the forced cells as the released guide's own fill.sh prints them over the translation bf7dac91906977d3… (all of the seat's roots in one cut). By AI agents, Wed Nov 11 2026. No macro, syntax, notation, axiom, sorry.
-/
import Derived.Test.YtpcgdleccebjpaaGreatDoorChecked
import GoSem.Claim
import GoSem.ClaimJoined
import GoSem.ClaimMapViews
import Derived.JoinedTies
import Derived.KernelRfl
namespace Go.Proofs.YtpcgdleccebjpaaGreatDoor
/- THE CELL 'sum', in the pinned program and in every row, IS THE sha256 OF THE DUMP (.gsa) THAT YtpcgdleccebjpaaGreatDoorProg.lean LOADS. Nothing in Lean hashes anything: it is a label: what it is worth is what the hold of that sum in a sandbox is worth. -/
noncomputable def Tryz.pinned : Pinned := { name := "ytpcgdleccebjpaagreatdoor", sum := "bf7dac91906977d332170e9ac9fd13f1d4ef7bbfb5af0fdc59fe8674b1954d6e", checked := Tryz.checked }
namespace Rows
def none {H : Type} : Left H := { results := [], args := [] }

/- WHAT THE LISTED PACKAGE-LEVEL VARIABLES READ AS WHEN THE CALL BEGINS. Each datum BY PROGRAM (the guide's laid-datum.mjs) off the statement by which the dump's own 'gosem.cut.vars' lays the variable. In a bare row this is a premise. The card (YtpcgdleccebjpaaGreatDoorCards.lean) ties it to the program's text. -/
def laid_math_bits_deBruijn64tab {H : Type} : DataW H := .agg [.lit (.int .u8 0), .lit (.int .u8 1), .lit (.int .u8 56), .lit (.int .u8 2), .lit (.int .u8 57), .lit (.int .u8 49), .lit (.int .u8 28), .lit (.int .u8 3), .lit (.int .u8 61), .lit (.int .u8 58), .lit (.int .u8 42), .lit (.int .u8 50), .lit (.int .u8 38), .lit (.int .u8 29), .lit (.int .u8 17), .lit (.int .u8 4), .lit (.int .u8 62), .lit (.int .u8 47), .lit (.int .u8 59), .lit (.int .u8 36), .lit (.int .u8 45), .lit (.int .u8 43), .lit (.int .u8 51), .lit (.int .u8 22), .lit (.int .u8 53), .lit (.int .u8 39), .lit (.int .u8 33), .lit (.int .u8 30), .lit (.int .u8 24), .lit (.int .u8 18), .lit (.int .u8 12), .lit (.int .u8 5), .lit (.int .u8 63), .lit (.int .u8 55), .lit (.int .u8 48), .lit (.int .u8 27), .lit (.int .u8 60), .lit (.int .u8 41), .lit (.int .u8 37), .lit (.int .u8 16), .lit (.int .u8 46), .lit (.int .u8 35), .lit (.int .u8 44), .lit (.int .u8 21), .lit (.int .u8 52), .lit (.int .u8 32), .lit (.int .u8 23), .lit (.int .u8 11), .lit (.int .u8 54), .lit (.int .u8 26), .lit (.int .u8 40), .lit (.int .u8 15), .lit (.int .u8 34), .lit (.int .u8 20), .lit (.int .u8 31), .lit (.int .u8 10), .lit (.int .u8 25), .lit (.int .u8 14), .lit (.int .u8 19), .lit (.int .u8 9), .lit (.int .u8 13), .lit (.int .u8 8), .lit (.int .u8 7), .lit (.int .u8 6)]

/-- 'soughlaw40.AvailSystems': WHATEVER THE INPUT: true; the input reads as it did. -/
def availSystemsSpec : ChangeSpec := { name := "availSystems", fn := fun _ => fun
  | [d] => { results := [.lit (.bool true)], args := [d] }
  | _ => none }
def availSystemsRow : OpenClaim := { program := "ytpcgdleccebjpaagreatdoor", sum := "bf7dac91906977d332170e9ac9fd13f1d4ef7bbfb5af0fdc59fe8674b1954d6e", func := "sough/soughlaw40.AvailSystems", spec := "availSystems", inPlace := ["slices.overlaps[string]"], unfollowed := true, recurses := true, named := ["math/bits.deBruijn64tab"], plainKeys := false, apart := false, laid := [("math/bits.deBruijn64tab", laid_math_bits_deBruijn64tab)] }
def AvailSystemsSaid : Prop := availSystemsRow.holds Tryz.pinned (OpenSpec.ofChange availSystemsSpec)

/-- ITS FALSE NEIGHBOUR: 'it returns false'. Refute it at one input. -/
def availSystemsWrong : ChangeSpec := { name := "availSystems", fn := fun _ => fun
  | [d] => { results := [.lit (.bool false)], args := [d] }
  | _ => none }
def AvailSystemsWrongFalsely : Prop := availSystemsRow.holds Tryz.pinned (OpenSpec.ofChange availSystemsWrong)

/-- 'soughlaw40.AvailSets': WHATEVER THE INPUT: true; the input reads as it did. -/
def availSetsSpec : ChangeSpec := { name := "availSets", fn := fun _ => fun
  | [d] => { results := [.lit (.bool true)], args := [d] }
  | _ => none }
def availSetsRow : OpenClaim := { program := "ytpcgdleccebjpaagreatdoor", sum := "bf7dac91906977d332170e9ac9fd13f1d4ef7bbfb5af0fdc59fe8674b1954d6e", func := "sough/soughlaw40.AvailSets", spec := "availSets", inPlace := ["slices.overlaps[string]"], unfollowed := true, recurses := true, named := ["math/bits.deBruijn64tab"], plainKeys := false, apart := false, laid := [("math/bits.deBruijn64tab", laid_math_bits_deBruijn64tab)] }
def AvailSetsSaid : Prop := availSetsRow.holds Tryz.pinned (OpenSpec.ofChange availSetsSpec)

/-- ITS FALSE NEIGHBOUR: 'it returns false'. Refute it at one input. -/
def availSetsWrong : ChangeSpec := { name := "availSets", fn := fun _ => fun
  | [d] => { results := [.lit (.bool false)], args := [d] }
  | _ => none }
def AvailSetsWrongFalsely : Prop := availSetsRow.holds Tryz.pinned (OpenSpec.ofChange availSetsWrong)

/-- 'soughlaw39.ReachSystems': WHATEVER THE INPUT: true; the input reads as it did. -/
def reachSystemsSpec : ChangeSpec := { name := "reachSystems", fn := fun _ => fun
  | [d] => { results := [.lit (.bool true)], args := [d] }
  | _ => none }
def reachSystemsRow : OpenClaim := { program := "ytpcgdleccebjpaagreatdoor", sum := "bf7dac91906977d332170e9ac9fd13f1d4ef7bbfb5af0fdc59fe8674b1954d6e", func := "sough/soughlaw39.ReachSystems", spec := "reachSystems", inPlace := ["slices.overlaps[string]"], unfollowed := true, recurses := true, named := ["math/bits.deBruijn64tab"], plainKeys := false, apart := false, laid := [("math/bits.deBruijn64tab", laid_math_bits_deBruijn64tab)] }
def ReachSystemsSaid : Prop := reachSystemsRow.holds Tryz.pinned (OpenSpec.ofChange reachSystemsSpec)

/-- ITS FALSE NEIGHBOUR: 'it returns false'. Refute it at one input. -/
def reachSystemsWrong : ChangeSpec := { name := "reachSystems", fn := fun _ => fun
  | [d] => { results := [.lit (.bool false)], args := [d] }
  | _ => none }
def ReachSystemsWrongFalsely : Prop := reachSystemsRow.holds Tryz.pinned (OpenSpec.ofChange reachSystemsWrong)

/-- 'soughlaw39.ReachSets': WHATEVER THE INPUT: true; the input reads as it did. -/
def reachSetsSpec : ChangeSpec := { name := "reachSets", fn := fun _ => fun
  | [d1, d2, d3, d4] => { results := [.lit (.bool true)], args := [d1, d2, d3, d4] }
  | _ => none }
def reachSetsRow : OpenClaim := { program := "ytpcgdleccebjpaagreatdoor", sum := "bf7dac91906977d332170e9ac9fd13f1d4ef7bbfb5af0fdc59fe8674b1954d6e", func := "sough/soughlaw39.ReachSets", spec := "reachSets", inPlace := ["slices.overlaps[string]"], unfollowed := true, recurses := true, named := ["math/bits.deBruijn64tab"], plainKeys := false, apart := false, laid := [("math/bits.deBruijn64tab", laid_math_bits_deBruijn64tab)] }
def ReachSetsSaid : Prop := reachSetsRow.holds Tryz.pinned (OpenSpec.ofChange reachSetsSpec)

/-- ITS FALSE NEIGHBOUR: 'it returns false'. Refute it at one input. -/
def reachSetsWrong : ChangeSpec := { name := "reachSets", fn := fun _ => fun
  | [d1, d2, d3, d4] => { results := [.lit (.bool false)], args := [d1, d2, d3, d4] }
  | _ => none }
def ReachSetsWrongFalsely : Prop := reachSetsRow.holds Tryz.pinned (OpenSpec.ofChange reachSetsWrong)

/-- 'soughlaw40.AvailRuns': WHATEVER THE INPUT: true; the input reads as it did. -/
def availRunsSpec : ChangeSpec := { name := "availRuns", fn := fun _ => fun
  | [d1, d2, d3] => { results := [.lit (.bool true)], args := [d1, d2, d3] }
  | _ => none }
def availRunsRow : OpenClaim := { program := "ytpcgdleccebjpaagreatdoor", sum := "bf7dac91906977d332170e9ac9fd13f1d4ef7bbfb5af0fdc59fe8674b1954d6e", func := "sough/soughlaw40.AvailRuns", spec := "availRuns", inPlace := ["slices.overlaps[string]"], unfollowed := true, recurses := true, named := ["math/bits.deBruijn64tab"], plainKeys := false, apart := false, laid := [("math/bits.deBruijn64tab", laid_math_bits_deBruijn64tab)] }
def AvailRunsSaid : Prop := availRunsRow.holds Tryz.pinned (OpenSpec.ofChange availRunsSpec)

/-- ITS FALSE NEIGHBOUR: 'it returns false'. Refute it at one input. -/
def availRunsWrong : ChangeSpec := { name := "availRuns", fn := fun _ => fun
  | [d1, d2, d3] => { results := [.lit (.bool false)], args := [d1, d2, d3] }
  | _ => none }
def AvailRunsWrongFalsely : Prop := availRunsRow.holds Tryz.pinned (OpenSpec.ofChange availRunsWrong)

/-- 'soughlaw39.ReachRuns': WHATEVER THE INPUT: true; the input reads as it did. -/
def reachRunsSpec : ChangeSpec := { name := "reachRuns", fn := fun _ => fun
  | [d1, d2, d3] => { results := [.lit (.bool true)], args := [d1, d2, d3] }
  | _ => none }
def reachRunsRow : OpenClaim := { program := "ytpcgdleccebjpaagreatdoor", sum := "bf7dac91906977d332170e9ac9fd13f1d4ef7bbfb5af0fdc59fe8674b1954d6e", func := "sough/soughlaw39.ReachRuns", spec := "reachRuns", inPlace := ["slices.overlaps[string]"], unfollowed := true, recurses := true, named := ["math/bits.deBruijn64tab"], plainKeys := false, apart := false, laid := [("math/bits.deBruijn64tab", laid_math_bits_deBruijn64tab)] }
def ReachRunsSaid : Prop := reachRunsRow.holds Tryz.pinned (OpenSpec.ofChange reachRunsSpec)

/-- ITS FALSE NEIGHBOUR: 'it returns false'. Refute it at one input. -/
def reachRunsWrong : ChangeSpec := { name := "reachRuns", fn := fun _ => fun
  | [d1, d2, d3] => { results := [.lit (.bool false)], args := [d1, d2, d3] }
  | _ => none }
def ReachRunsWrongFalsely : Prop := reachRunsRow.holds Tryz.pinned (OpenSpec.ofChange reachRunsWrong)

/-- 'soughlaw38.LiveSystems': WHATEVER THE INPUT: true; the input reads as it did. -/
def liveSystemsSpec : ChangeSpec := { name := "liveSystems", fn := fun _ => fun
  | [d1, d2] => { results := [.lit (.bool true)], args := [d1, d2] }
  | _ => none }
def liveSystemsRow : OpenClaim := { program := "ytpcgdleccebjpaagreatdoor", sum := "bf7dac91906977d332170e9ac9fd13f1d4ef7bbfb5af0fdc59fe8674b1954d6e", func := "sough/soughlaw38.LiveSystems", spec := "liveSystems", inPlace := ["slices.overlaps[string]"], unfollowed := true, recurses := true, named := ["math/bits.deBruijn64tab"], plainKeys := false, apart := false, laid := [("math/bits.deBruijn64tab", laid_math_bits_deBruijn64tab)] }
def LiveSystemsSaid : Prop := liveSystemsRow.holds Tryz.pinned (OpenSpec.ofChange liveSystemsSpec)

/-- ITS FALSE NEIGHBOUR: 'it returns false'. Refute it at one input. -/
def liveSystemsWrong : ChangeSpec := { name := "liveSystems", fn := fun _ => fun
  | [d1, d2] => { results := [.lit (.bool false)], args := [d1, d2] }
  | _ => none }
def LiveSystemsWrongFalsely : Prop := liveSystemsRow.holds Tryz.pinned (OpenSpec.ofChange liveSystemsWrong)

/-- 'soughlaw38.LiveSets': WHATEVER THE INPUT: true; the input reads as it did. -/
def liveSetsSpec : ChangeSpec := { name := "liveSets", fn := fun _ => fun
  | [d1, d2, d3] => { results := [.lit (.bool true)], args := [d1, d2, d3] }
  | _ => none }
def liveSetsRow : OpenClaim := { program := "ytpcgdleccebjpaagreatdoor", sum := "bf7dac91906977d332170e9ac9fd13f1d4ef7bbfb5af0fdc59fe8674b1954d6e", func := "sough/soughlaw38.LiveSets", spec := "liveSets", inPlace := ["slices.overlaps[string]"], unfollowed := true, recurses := true, named := ["math/bits.deBruijn64tab"], plainKeys := false, apart := false, laid := [("math/bits.deBruijn64tab", laid_math_bits_deBruijn64tab)] }
def LiveSetsSaid : Prop := liveSetsRow.holds Tryz.pinned (OpenSpec.ofChange liveSetsSpec)

/-- ITS FALSE NEIGHBOUR: 'it returns false'. Refute it at one input. -/
def liveSetsWrong : ChangeSpec := { name := "liveSets", fn := fun _ => fun
  | [d1, d2, d3] => { results := [.lit (.bool false)], args := [d1, d2, d3] }
  | _ => none }
def LiveSetsWrongFalsely : Prop := liveSetsRow.holds Tryz.pinned (OpenSpec.ofChange liveSetsWrong)

/-- 'soughlaw38.LiveRuns': WHATEVER THE INPUT: true; the input reads as it did. -/
def liveRunsSpec : ChangeSpec := { name := "liveRuns", fn := fun _ => fun
  | [d1, d2, d3, d4, d5, d6] => { results := [.lit (.bool true)], args := [d1, d2, d3, d4, d5, d6] }
  | _ => none }
def liveRunsRow : OpenClaim := { program := "ytpcgdleccebjpaagreatdoor", sum := "bf7dac91906977d332170e9ac9fd13f1d4ef7bbfb5af0fdc59fe8674b1954d6e", func := "sough/soughlaw38.LiveRuns", spec := "liveRuns", inPlace := ["slices.overlaps[string]"], unfollowed := true, recurses := true, named := ["math/bits.deBruijn64tab"], plainKeys := false, apart := false, laid := [("math/bits.deBruijn64tab", laid_math_bits_deBruijn64tab)] }
def LiveRunsSaid : Prop := liveRunsRow.holds Tryz.pinned (OpenSpec.ofChange liveRunsSpec)

/-- ITS FALSE NEIGHBOUR: 'it returns false'. Refute it at one input. -/
def liveRunsWrong : ChangeSpec := { name := "liveRuns", fn := fun _ => fun
  | [d1, d2, d3, d4, d5, d6] => { results := [.lit (.bool false)], args := [d1, d2, d3, d4, d5, d6] }
  | _ => none }
def LiveRunsWrongFalsely : Prop := liveRunsRow.holds Tryz.pinned (OpenSpec.ofChange liveRunsWrong)

/- THE SECOND FORM. 'bulk': how many values and letters a reading holds, each counted each time it is reached (what is shared counts as often as it is met; a slice's spare places count too). A statement '..UptoSaid' is the law's where the arguments, and the package variables that the reading takes, are together of bulk at most 1048576: NARROWER than '..Said'. Prove '..Said' where nothing that the law and all that it calls make is longer than what came in: it says more and counts as full. Else prove '..UptoSaid'. A law counts once. -/
mutual
def uptoBulk {H : Type} : DataW H → Nat
  | .lit (.string bytes) => bytes.length + 1
  | .lit _ => 1
  | .nil => 1
  | .ptr d => uptoBulk d + 1
  | .slice elems spare => uptoBulkAll elems + uptoBulkAll spare + 1
  | .agg parts => uptoBulkAll parts + 1
  | .iface _ d => uptoBulk d + 1
  | .map entries => uptoBulkEntries entries + 1
  | .held _ => 1
def uptoBulkAll {H : Type} : List (DataW H) → Nat
  | [] => 0
  | d :: r => uptoBulk d + uptoBulkAll r
def uptoBulkEntries {H : Type} : List (Lit × DataW H) → Nat
  | [] => 0
  | x :: r => uptoBulkEntry x + uptoBulkEntries r
def uptoBulkEntry {H : Type} : Lit × DataW H → Nat
  | (.string bytes, d) => bytes.length + uptoBulk d + 1
  | (_, d) => uptoBulk d + 1
 end
def uptoSmall : (H : Type) → List (DataW H) → Bool := fun _ ds => decide (uptoBulkAll ds ≤ 1048576)
def OpenSpec.upto (s : _root_.Go.ChangeSpec) : _root_.Go.OpenSpec := { _root_.Go.OpenSpec.ofChange s with cond := some uptoSmall }

/-- 'soughlaw40.AvailSystems', WHERE WHAT IT READS IS OF BULK AT MOST 1048576: true; the input reads as it did. -/
def availSystemsUptoRow : OpenClaim := { program := "ytpcgdleccebjpaagreatdoor", sum := "bf7dac91906977d332170e9ac9fd13f1d4ef7bbfb5af0fdc59fe8674b1954d6e", func := "sough/soughlaw40.AvailSystems", spec := "availSystems", inPlace := ["slices.overlaps[string]"], unfollowed := true, recurses := true, named := ["math/bits.deBruijn64tab"], plainKeys := false, apart := false, laid := [("math/bits.deBruijn64tab", laid_math_bits_deBruijn64tab)], narrowed := true }
def AvailSystemsUptoSaid : Prop := availSystemsUptoRow.holds Tryz.pinned (OpenSpec.upto availSystemsSpec)

/-- 'soughlaw40.AvailSets', WHERE WHAT IT READS IS OF BULK AT MOST 1048576: true; the input reads as it did. -/
def availSetsUptoRow : OpenClaim := { program := "ytpcgdleccebjpaagreatdoor", sum := "bf7dac91906977d332170e9ac9fd13f1d4ef7bbfb5af0fdc59fe8674b1954d6e", func := "sough/soughlaw40.AvailSets", spec := "availSets", inPlace := ["slices.overlaps[string]"], unfollowed := true, recurses := true, named := ["math/bits.deBruijn64tab"], plainKeys := false, apart := false, laid := [("math/bits.deBruijn64tab", laid_math_bits_deBruijn64tab)], narrowed := true }
def AvailSetsUptoSaid : Prop := availSetsUptoRow.holds Tryz.pinned (OpenSpec.upto availSetsSpec)

/-- 'soughlaw39.ReachSystems', WHERE WHAT IT READS IS OF BULK AT MOST 1048576: true; the input reads as it did. -/
def reachSystemsUptoRow : OpenClaim := { program := "ytpcgdleccebjpaagreatdoor", sum := "bf7dac91906977d332170e9ac9fd13f1d4ef7bbfb5af0fdc59fe8674b1954d6e", func := "sough/soughlaw39.ReachSystems", spec := "reachSystems", inPlace := ["slices.overlaps[string]"], unfollowed := true, recurses := true, named := ["math/bits.deBruijn64tab"], plainKeys := false, apart := false, laid := [("math/bits.deBruijn64tab", laid_math_bits_deBruijn64tab)], narrowed := true }
def ReachSystemsUptoSaid : Prop := reachSystemsUptoRow.holds Tryz.pinned (OpenSpec.upto reachSystemsSpec)

/-- 'soughlaw39.ReachSets', WHERE WHAT IT READS IS OF BULK AT MOST 1048576: true; the input reads as it did. -/
def reachSetsUptoRow : OpenClaim := { program := "ytpcgdleccebjpaagreatdoor", sum := "bf7dac91906977d332170e9ac9fd13f1d4ef7bbfb5af0fdc59fe8674b1954d6e", func := "sough/soughlaw39.ReachSets", spec := "reachSets", inPlace := ["slices.overlaps[string]"], unfollowed := true, recurses := true, named := ["math/bits.deBruijn64tab"], plainKeys := false, apart := false, laid := [("math/bits.deBruijn64tab", laid_math_bits_deBruijn64tab)], narrowed := true }
def ReachSetsUptoSaid : Prop := reachSetsUptoRow.holds Tryz.pinned (OpenSpec.upto reachSetsSpec)

/-- 'soughlaw40.AvailRuns', WHERE WHAT IT READS IS OF BULK AT MOST 1048576: true; the input reads as it did. -/
def availRunsUptoRow : OpenClaim := { program := "ytpcgdleccebjpaagreatdoor", sum := "bf7dac91906977d332170e9ac9fd13f1d4ef7bbfb5af0fdc59fe8674b1954d6e", func := "sough/soughlaw40.AvailRuns", spec := "availRuns", inPlace := ["slices.overlaps[string]"], unfollowed := true, recurses := true, named := ["math/bits.deBruijn64tab"], plainKeys := false, apart := false, laid := [("math/bits.deBruijn64tab", laid_math_bits_deBruijn64tab)], narrowed := true }
def AvailRunsUptoSaid : Prop := availRunsUptoRow.holds Tryz.pinned (OpenSpec.upto availRunsSpec)

/-- 'soughlaw39.ReachRuns', WHERE WHAT IT READS IS OF BULK AT MOST 1048576: true; the input reads as it did. -/
def reachRunsUptoRow : OpenClaim := { program := "ytpcgdleccebjpaagreatdoor", sum := "bf7dac91906977d332170e9ac9fd13f1d4ef7bbfb5af0fdc59fe8674b1954d6e", func := "sough/soughlaw39.ReachRuns", spec := "reachRuns", inPlace := ["slices.overlaps[string]"], unfollowed := true, recurses := true, named := ["math/bits.deBruijn64tab"], plainKeys := false, apart := false, laid := [("math/bits.deBruijn64tab", laid_math_bits_deBruijn64tab)], narrowed := true }
def ReachRunsUptoSaid : Prop := reachRunsUptoRow.holds Tryz.pinned (OpenSpec.upto reachRunsSpec)

/-- 'soughlaw38.LiveSystems', WHERE WHAT IT READS IS OF BULK AT MOST 1048576: true; the input reads as it did. -/
def liveSystemsUptoRow : OpenClaim := { program := "ytpcgdleccebjpaagreatdoor", sum := "bf7dac91906977d332170e9ac9fd13f1d4ef7bbfb5af0fdc59fe8674b1954d6e", func := "sough/soughlaw38.LiveSystems", spec := "liveSystems", inPlace := ["slices.overlaps[string]"], unfollowed := true, recurses := true, named := ["math/bits.deBruijn64tab"], plainKeys := false, apart := false, laid := [("math/bits.deBruijn64tab", laid_math_bits_deBruijn64tab)], narrowed := true }
def LiveSystemsUptoSaid : Prop := liveSystemsUptoRow.holds Tryz.pinned (OpenSpec.upto liveSystemsSpec)

/-- 'soughlaw38.LiveSets', WHERE WHAT IT READS IS OF BULK AT MOST 1048576: true; the input reads as it did. -/
def liveSetsUptoRow : OpenClaim := { program := "ytpcgdleccebjpaagreatdoor", sum := "bf7dac91906977d332170e9ac9fd13f1d4ef7bbfb5af0fdc59fe8674b1954d6e", func := "sough/soughlaw38.LiveSets", spec := "liveSets", inPlace := ["slices.overlaps[string]"], unfollowed := true, recurses := true, named := ["math/bits.deBruijn64tab"], plainKeys := false, apart := false, laid := [("math/bits.deBruijn64tab", laid_math_bits_deBruijn64tab)], narrowed := true }
def LiveSetsUptoSaid : Prop := liveSetsUptoRow.holds Tryz.pinned (OpenSpec.upto liveSetsSpec)

/-- 'soughlaw38.LiveRuns', WHERE WHAT IT READS IS OF BULK AT MOST 1048576: true; the input reads as it did. -/
def liveRunsUptoRow : OpenClaim := { program := "ytpcgdleccebjpaagreatdoor", sum := "bf7dac91906977d332170e9ac9fd13f1d4ef7bbfb5af0fdc59fe8674b1954d6e", func := "sough/soughlaw38.LiveRuns", spec := "liveRuns", inPlace := ["slices.overlaps[string]"], unfollowed := true, recurses := true, named := ["math/bits.deBruijn64tab"], plainKeys := false, apart := false, laid := [("math/bits.deBruijn64tab", laid_math_bits_deBruijn64tab)], narrowed := true }
def LiveRunsUptoSaid : Prop := liveRunsUptoRow.holds Tryz.pinned (OpenSpec.upto liveRunsSpec)

end Rows
end Go.Proofs.YtpcgdleccebjpaaGreatDoor
