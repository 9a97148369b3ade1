/-
  No cell of these rows narrows 'for every input' (looked for: loops, veiled, ifaces, maps, wideKeys, modest, calm, conditions, laid).
  DERIVED. THE GIVEN ROWS OF THIS SEAT. 12 by the template 'for every input the law returns true; each argument reads behind the call as it read before'; 0 by the template 'total and deterministic' (their statements: YtjflpceoeofomaaTotals.lean).
  GIVEN WITH THE SEED: the statements are not yours to turn. If you find one false, say at which input.
  Laid BY PROGRAM, IN A SANDBOX (cutbox-rows.mjs): the forced cells as the released guide's own fill.sh prints them over the translation f42829cb34edb66d… (all of the seat's roots in one cut). By AI agents, Wed Nov 11 2026. No macro, syntax, notation, axiom, sorry.
-/
import Derived.Test.YtjflpceoeofomaaChecked
import GoSem.Claim
import GoSem.ClaimJoined
import GoSem.ClaimMapViews
import Derived.JoinedTies
import Derived.KernelRfl
namespace Go.Proofs.Ytjflpceoeofomaa
/- THE CELL 'sum', in the pinned program and in every row, IS THE sha256 OF THE DUMP (.gsa) THAT YtjflpceoeofomaaProg.lean LOADS. Nothing in Lean hashes anything: it is a label: what it is worth is what the hold of that sum in a sandbox is worth. -/
noncomputable def Try.pinned : Pinned := { name := "ytjflpceoeofomaa", sum := "f42829cb34edb66d2157655388fe3e23c61ed322cca0c6bc1d78f051cee2ac3d", checked := Try.checked }
namespace Rows
def none {H : Type} : Left H := { results := [], args := [] }

/-- 'soughlaw07.FlowPrograms': WHATEVER THE INPUT: true; the input reads as it did. -/
def flowProgramsSpec : ChangeSpec := { name := "flowPrograms", fn := fun _ => fun
  | [d] => { results := [.lit (.bool true)], args := [d] }
  | _ => none }
def flowProgramsRow : OpenClaim := { program := "ytjflpceoeofomaa", sum := "f42829cb34edb66d2157655388fe3e23c61ed322cca0c6bc1d78f051cee2ac3d", func := "sough/soughlaw07.FlowPrograms", spec := "flowPrograms", unfollowed := true, recurses := true, apart := false }
def FlowProgramsSaid : Prop := flowProgramsRow.holds Try.pinned (OpenSpec.ofChange flowProgramsSpec)

/-- ITS FALSE NEIGHBOUR: 'it returns false'. Refute it at one input. -/
def flowProgramsWrong : ChangeSpec := { name := "flowPrograms", fn := fun _ => fun
  | [d] => { results := [.lit (.bool false)], args := [d] }
  | _ => none }
def FlowProgramsWrongFalsely : Prop := flowProgramsRow.holds Try.pinned (OpenSpec.ofChange flowProgramsWrong)

/-- 'soughlaw14.OrderIs': WHATEVER THE INPUT: true; the input reads as it did. -/
def orderIsSpec : ChangeSpec := { name := "orderIs", fn := fun _ => fun
  | [d1, d2] => { results := [.lit (.bool true)], args := [d1, d2] }
  | _ => none }
def orderIsRow : OpenClaim := { program := "ytjflpceoeofomaa", sum := "f42829cb34edb66d2157655388fe3e23c61ed322cca0c6bc1d78f051cee2ac3d", func := "sough/soughlaw14.OrderIs", spec := "orderIs", unfollowed := true, recurses := true, apart := false }
def OrderIsSaid : Prop := orderIsRow.holds Try.pinned (OpenSpec.ofChange orderIsSpec)

/-- ITS FALSE NEIGHBOUR: 'it returns false'. Refute it at one input. -/
def orderIsWrong : ChangeSpec := { name := "orderIs", fn := fun _ => fun
  | [d1, d2] => { results := [.lit (.bool false)], args := [d1, d2] }
  | _ => none }
def OrderIsWrongFalsely : Prop := orderIsRow.holds Try.pinned (OpenSpec.ofChange orderIsWrong)

/-- 'soughlaw13.SccParts': WHATEVER THE INPUT: true; the input reads as it did. -/
def sccPartsSpec : ChangeSpec := { name := "sccParts", fn := fun _ => fun
  | [d1, d2] => { results := [.lit (.bool true)], args := [d1, d2] }
  | _ => none }
def sccPartsRow : OpenClaim := { program := "ytjflpceoeofomaa", sum := "f42829cb34edb66d2157655388fe3e23c61ed322cca0c6bc1d78f051cee2ac3d", func := "sough/soughlaw13.SccParts", spec := "sccParts", unfollowed := true, recurses := true, apart := false }
def SccPartsSaid : Prop := sccPartsRow.holds Try.pinned (OpenSpec.ofChange sccPartsSpec)

/-- ITS FALSE NEIGHBOUR: 'it returns false'. Refute it at one input. -/
def sccPartsWrong : ChangeSpec := { name := "sccParts", fn := fun _ => fun
  | [d1, d2] => { results := [.lit (.bool false)], args := [d1, d2] }
  | _ => none }
def SccPartsWrongFalsely : Prop := sccPartsRow.holds Try.pinned (OpenSpec.ofChange sccPartsWrong)

/-- 'soughlaw15.ShareLoads': WHATEVER THE INPUT: true; the input reads as it did. -/
def shareLoadsSpec : ChangeSpec := { name := "shareLoads", fn := fun _ => fun
  | [d1, d2] => { results := [.lit (.bool true)], args := [d1, d2] }
  | _ => none }
def shareLoadsRow : OpenClaim := { program := "ytjflpceoeofomaa", sum := "f42829cb34edb66d2157655388fe3e23c61ed322cca0c6bc1d78f051cee2ac3d", func := "sough/soughlaw15.ShareLoads", spec := "shareLoads", unfollowed := true, recurses := true, apart := false }
def ShareLoadsSaid : Prop := shareLoadsRow.holds Try.pinned (OpenSpec.ofChange shareLoadsSpec)

/-- ITS FALSE NEIGHBOUR: 'it returns false'. Refute it at one input. -/
def shareLoadsWrong : ChangeSpec := { name := "shareLoads", fn := fun _ => fun
  | [d1, d2] => { results := [.lit (.bool false)], args := [d1, d2] }
  | _ => none }
def ShareLoadsWrongFalsely : Prop := shareLoadsRow.holds Try.pinned (OpenSpec.ofChange shareLoadsWrong)

/-- 'soughlaw07.FlowTurns': WHATEVER THE INPUT: true; the input reads as it did. -/
def flowTurnsSpec : ChangeSpec := { name := "flowTurns", fn := fun _ => fun
  | [d1, d2, d3] => { results := [.lit (.bool true)], args := [d1, d2, d3] }
  | _ => none }
def flowTurnsRow : OpenClaim := { program := "ytjflpceoeofomaa", sum := "f42829cb34edb66d2157655388fe3e23c61ed322cca0c6bc1d78f051cee2ac3d", func := "sough/soughlaw07.FlowTurns", spec := "flowTurns", unfollowed := true, recurses := true, apart := false }
def FlowTurnsSaid : Prop := flowTurnsRow.holds Try.pinned (OpenSpec.ofChange flowTurnsSpec)

/-- ITS FALSE NEIGHBOUR: 'it returns false'. Refute it at one input. -/
def flowTurnsWrong : ChangeSpec := { name := "flowTurns", fn := fun _ => fun
  | [d1, d2, d3] => { results := [.lit (.bool false)], args := [d1, d2, d3] }
  | _ => none }
def FlowTurnsWrongFalsely : Prop := flowTurnsRow.holds Try.pinned (OpenSpec.ofChange flowTurnsWrong)

/-- 'soughlaw07.FlowGraphs': WHATEVER THE INPUT: true; the input reads as it did. -/
def flowGraphsSpec : ChangeSpec := { name := "flowGraphs", fn := fun _ => fun
  | [d1, d2, d3, d4] => { results := [.lit (.bool true)], args := [d1, d2, d3, d4] }
  | _ => none }
def flowGraphsRow : OpenClaim := { program := "ytjflpceoeofomaa", sum := "f42829cb34edb66d2157655388fe3e23c61ed322cca0c6bc1d78f051cee2ac3d", func := "sough/soughlaw07.FlowGraphs", spec := "flowGraphs", unfollowed := true, recurses := true, apart := false }
def FlowGraphsSaid : Prop := flowGraphsRow.holds Try.pinned (OpenSpec.ofChange flowGraphsSpec)

/-- ITS FALSE NEIGHBOUR: 'it returns false'. Refute it at one input. -/
def flowGraphsWrong : ChangeSpec := { name := "flowGraphs", fn := fun _ => fun
  | [d1, d2, d3, d4] => { results := [.lit (.bool false)], args := [d1, d2, d3, d4] }
  | _ => none }
def FlowGraphsWrongFalsely : Prop := flowGraphsRow.holds Try.pinned (OpenSpec.ofChange flowGraphsWrong)

/-- 'soughlaw14.OrderTells': WHATEVER THE INPUT: true; the input reads as it did. -/
def orderTellsSpec : ChangeSpec := { name := "orderTells", fn := fun _ => fun
  | [d1, d2, d3] => { results := [.lit (.bool true)], args := [d1, d2, d3] }
  | _ => none }
def orderTellsRow : OpenClaim := { program := "ytjflpceoeofomaa", sum := "f42829cb34edb66d2157655388fe3e23c61ed322cca0c6bc1d78f051cee2ac3d", func := "sough/soughlaw14.OrderTells", spec := "orderTells", unfollowed := true, recurses := true, apart := false }
def OrderTellsSaid : Prop := orderTellsRow.holds Try.pinned (OpenSpec.ofChange orderTellsSpec)

/-- ITS FALSE NEIGHBOUR: 'it returns false'. Refute it at one input. -/
def orderTellsWrong : ChangeSpec := { name := "orderTells", fn := fun _ => fun
  | [d1, d2, d3] => { results := [.lit (.bool false)], args := [d1, d2, d3] }
  | _ => none }
def OrderTellsWrongFalsely : Prop := orderTellsRow.holds Try.pinned (OpenSpec.ofChange orderTellsWrong)

/-- 'soughlaw14.OrderForward': WHATEVER THE INPUT: true; the input reads as it did. -/
def orderForwardSpec : ChangeSpec := { name := "orderForward", fn := fun _ => fun
  | [d1, d2, d3] => { results := [.lit (.bool true)], args := [d1, d2, d3] }
  | _ => none }
def orderForwardRow : OpenClaim := { program := "ytjflpceoeofomaa", sum := "f42829cb34edb66d2157655388fe3e23c61ed322cca0c6bc1d78f051cee2ac3d", func := "sough/soughlaw14.OrderForward", spec := "orderForward", unfollowed := true, recurses := true, apart := false }
def OrderForwardSaid : Prop := orderForwardRow.holds Try.pinned (OpenSpec.ofChange orderForwardSpec)

/-- ITS FALSE NEIGHBOUR: 'it returns false'. Refute it at one input. -/
def orderForwardWrong : ChangeSpec := { name := "orderForward", fn := fun _ => fun
  | [d1, d2, d3] => { results := [.lit (.bool false)], args := [d1, d2, d3] }
  | _ => none }
def OrderForwardWrongFalsely : Prop := orderForwardRow.holds Try.pinned (OpenSpec.ofChange orderForwardWrong)

/-- 'soughlaw13.SccBetween': WHATEVER THE INPUT: true; the input reads as it did. -/
def sccBetweenSpec : ChangeSpec := { name := "sccBetween", fn := fun _ => fun
  | [d1, d2] => { results := [.lit (.bool true)], args := [d1, d2] }
  | _ => none }
def sccBetweenRow : OpenClaim := { program := "ytjflpceoeofomaa", sum := "f42829cb34edb66d2157655388fe3e23c61ed322cca0c6bc1d78f051cee2ac3d", func := "sough/soughlaw13.SccBetween", spec := "sccBetween", unfollowed := true, recurses := true, apart := false }
def SccBetweenSaid : Prop := sccBetweenRow.holds Try.pinned (OpenSpec.ofChange sccBetweenSpec)

/-- ITS FALSE NEIGHBOUR: 'it returns false'. Refute it at one input. -/
def sccBetweenWrong : ChangeSpec := { name := "sccBetween", fn := fun _ => fun
  | [d1, d2] => { results := [.lit (.bool false)], args := [d1, d2] }
  | _ => none }
def SccBetweenWrongFalsely : Prop := sccBetweenRow.holds Try.pinned (OpenSpec.ofChange sccBetweenWrong)

/-- 'soughlaw13.SccOrder': WHATEVER THE INPUT: true; the input reads as it did. -/
def sccOrderSpec : ChangeSpec := { name := "sccOrder", fn := fun _ => fun
  | [d1, d2] => { results := [.lit (.bool true)], args := [d1, d2] }
  | _ => none }
def sccOrderRow : OpenClaim := { program := "ytjflpceoeofomaa", sum := "f42829cb34edb66d2157655388fe3e23c61ed322cca0c6bc1d78f051cee2ac3d", func := "sough/soughlaw13.SccOrder", spec := "sccOrder", unfollowed := true, recurses := true, apart := false }
def SccOrderSaid : Prop := sccOrderRow.holds Try.pinned (OpenSpec.ofChange sccOrderSpec)

/-- ITS FALSE NEIGHBOUR: 'it returns false'. Refute it at one input. -/
def sccOrderWrong : ChangeSpec := { name := "sccOrder", fn := fun _ => fun
  | [d1, d2] => { results := [.lit (.bool false)], args := [d1, d2] }
  | _ => none }
def SccOrderWrongFalsely : Prop := sccOrderRow.holds Try.pinned (OpenSpec.ofChange sccOrderWrong)

/-- 'soughlaw15.ShareTells': WHATEVER THE INPUT: true; the input reads as it did. -/
def shareTellsSpec : ChangeSpec := { name := "shareTells", fn := fun _ => fun
  | [d1, d2, d3, d4] => { results := [.lit (.bool true)], args := [d1, d2, d3, d4] }
  | _ => none }
def shareTellsRow : OpenClaim := { program := "ytjflpceoeofomaa", sum := "f42829cb34edb66d2157655388fe3e23c61ed322cca0c6bc1d78f051cee2ac3d", func := "sough/soughlaw15.ShareTells", spec := "shareTells", unfollowed := true, recurses := true, apart := false }
def ShareTellsSaid : Prop := shareTellsRow.holds Try.pinned (OpenSpec.ofChange shareTellsSpec)

/-- ITS FALSE NEIGHBOUR: 'it returns false'. Refute it at one input. -/
def shareTellsWrong : ChangeSpec := { name := "shareTells", fn := fun _ => fun
  | [d1, d2, d3, d4] => { results := [.lit (.bool false)], args := [d1, d2, d3, d4] }
  | _ => none }
def ShareTellsWrongFalsely : Prop := shareTellsRow.holds Try.pinned (OpenSpec.ofChange shareTellsWrong)

/-- 'soughlaw15.ShareEach': WHATEVER THE INPUT: true; the input reads as it did. -/
def shareEachSpec : ChangeSpec := { name := "shareEach", fn := fun _ => fun
  | [d1, d2, d3, d4] => { results := [.lit (.bool true)], args := [d1, d2, d3, d4] }
  | _ => none }
def shareEachRow : OpenClaim := { program := "ytjflpceoeofomaa", sum := "f42829cb34edb66d2157655388fe3e23c61ed322cca0c6bc1d78f051cee2ac3d", func := "sough/soughlaw15.ShareEach", spec := "shareEach", unfollowed := true, recurses := true, apart := false }
def ShareEachSaid : Prop := shareEachRow.holds Try.pinned (OpenSpec.ofChange shareEachSpec)

/-- ITS FALSE NEIGHBOUR: 'it returns false'. Refute it at one input. -/
def shareEachWrong : ChangeSpec := { name := "shareEach", fn := fun _ => fun
  | [d1, d2, d3, d4] => { results := [.lit (.bool false)], args := [d1, d2, d3, d4] }
  | _ => none }
def ShareEachWrongFalsely : Prop := shareEachRow.holds Try.pinned (OpenSpec.ofChange shareEachWrong)

/- THE SECOND FORM. 'bulk': how many values and letters a reading holds, each counted each time it is reached (what is shared counts as often as it is met; a slice's spare places count too). A statement '..UptoSaid' is the law's where the arguments, and the package variables that the reading takes, are together of bulk at most 1048576: NARROWER than '..Said'. Prove '..Said' where nothing that the law and all that it calls make is longer than what came in: it says more and counts as full. Else prove '..UptoSaid'. A law counts once. -/
mutual
def uptoBulk {H : Type} : DataW H → Nat
  | .lit (.string bytes) => bytes.length + 1
  | .lit _ => 1
  | .nil => 1
  | .ptr d => uptoBulk d + 1
  | .slice elems spare => uptoBulkAll elems + uptoBulkAll spare + 1
  | .agg parts => uptoBulkAll parts + 1
  | .iface _ d => uptoBulk d + 1
  | .map entries => uptoBulkEntries entries + 1
  | .held _ => 1
def uptoBulkAll {H : Type} : List (DataW H) → Nat
  | [] => 0
  | d :: r => uptoBulk d + uptoBulkAll r
def uptoBulkEntries {H : Type} : List (Lit × DataW H) → Nat
  | [] => 0
  | x :: r => uptoBulkEntry x + uptoBulkEntries r
def uptoBulkEntry {H : Type} : Lit × DataW H → Nat
  | (.string bytes, d) => bytes.length + uptoBulk d + 1
  | (_, d) => uptoBulk d + 1
 end
def uptoSmall : (H : Type) → List (DataW H) → Bool := fun _ ds => decide (uptoBulkAll ds ≤ 1048576)
def OpenSpec.upto (s : _root_.Go.ChangeSpec) : _root_.Go.OpenSpec := { _root_.Go.OpenSpec.ofChange s with cond := some uptoSmall }

/-- 'soughlaw07.FlowPrograms', WHERE WHAT IT READS IS OF BULK AT MOST 1048576: true; the input reads as it did. -/
def flowProgramsUptoRow : OpenClaim := { program := "ytjflpceoeofomaa", sum := "f42829cb34edb66d2157655388fe3e23c61ed322cca0c6bc1d78f051cee2ac3d", func := "sough/soughlaw07.FlowPrograms", spec := "flowPrograms", unfollowed := true, recurses := true, apart := false, narrowed := true }
def FlowProgramsUptoSaid : Prop := flowProgramsUptoRow.holds Try.pinned (OpenSpec.upto flowProgramsSpec)

/-- 'soughlaw14.OrderIs', WHERE WHAT IT READS IS OF BULK AT MOST 1048576: true; the input reads as it did. -/
def orderIsUptoRow : OpenClaim := { program := "ytjflpceoeofomaa", sum := "f42829cb34edb66d2157655388fe3e23c61ed322cca0c6bc1d78f051cee2ac3d", func := "sough/soughlaw14.OrderIs", spec := "orderIs", unfollowed := true, recurses := true, apart := false, narrowed := true }
def OrderIsUptoSaid : Prop := orderIsUptoRow.holds Try.pinned (OpenSpec.upto orderIsSpec)

/-- 'soughlaw13.SccParts', WHERE WHAT IT READS IS OF BULK AT MOST 1048576: true; the input reads as it did. -/
def sccPartsUptoRow : OpenClaim := { program := "ytjflpceoeofomaa", sum := "f42829cb34edb66d2157655388fe3e23c61ed322cca0c6bc1d78f051cee2ac3d", func := "sough/soughlaw13.SccParts", spec := "sccParts", unfollowed := true, recurses := true, apart := false, narrowed := true }
def SccPartsUptoSaid : Prop := sccPartsUptoRow.holds Try.pinned (OpenSpec.upto sccPartsSpec)

/-- 'soughlaw15.ShareLoads', WHERE WHAT IT READS IS OF BULK AT MOST 1048576: true; the input reads as it did. -/
def shareLoadsUptoRow : OpenClaim := { program := "ytjflpceoeofomaa", sum := "f42829cb34edb66d2157655388fe3e23c61ed322cca0c6bc1d78f051cee2ac3d", func := "sough/soughlaw15.ShareLoads", spec := "shareLoads", unfollowed := true, recurses := true, apart := false, narrowed := true }
def ShareLoadsUptoSaid : Prop := shareLoadsUptoRow.holds Try.pinned (OpenSpec.upto shareLoadsSpec)

/-- 'soughlaw07.FlowTurns', WHERE WHAT IT READS IS OF BULK AT MOST 1048576: true; the input reads as it did. -/
def flowTurnsUptoRow : OpenClaim := { program := "ytjflpceoeofomaa", sum := "f42829cb34edb66d2157655388fe3e23c61ed322cca0c6bc1d78f051cee2ac3d", func := "sough/soughlaw07.FlowTurns", spec := "flowTurns", unfollowed := true, recurses := true, apart := false, narrowed := true }
def FlowTurnsUptoSaid : Prop := flowTurnsUptoRow.holds Try.pinned (OpenSpec.upto flowTurnsSpec)

/-- 'soughlaw07.FlowGraphs', WHERE WHAT IT READS IS OF BULK AT MOST 1048576: true; the input reads as it did. -/
def flowGraphsUptoRow : OpenClaim := { program := "ytjflpceoeofomaa", sum := "f42829cb34edb66d2157655388fe3e23c61ed322cca0c6bc1d78f051cee2ac3d", func := "sough/soughlaw07.FlowGraphs", spec := "flowGraphs", unfollowed := true, recurses := true, apart := false, narrowed := true }
def FlowGraphsUptoSaid : Prop := flowGraphsUptoRow.holds Try.pinned (OpenSpec.upto flowGraphsSpec)

/-- 'soughlaw14.OrderTells', WHERE WHAT IT READS IS OF BULK AT MOST 1048576: true; the input reads as it did. -/
def orderTellsUptoRow : OpenClaim := { program := "ytjflpceoeofomaa", sum := "f42829cb34edb66d2157655388fe3e23c61ed322cca0c6bc1d78f051cee2ac3d", func := "sough/soughlaw14.OrderTells", spec := "orderTells", unfollowed := true, recurses := true, apart := false, narrowed := true }
def OrderTellsUptoSaid : Prop := orderTellsUptoRow.holds Try.pinned (OpenSpec.upto orderTellsSpec)

/-- 'soughlaw14.OrderForward', WHERE WHAT IT READS IS OF BULK AT MOST 1048576: true; the input reads as it did. -/
def orderForwardUptoRow : OpenClaim := { program := "ytjflpceoeofomaa", sum := "f42829cb34edb66d2157655388fe3e23c61ed322cca0c6bc1d78f051cee2ac3d", func := "sough/soughlaw14.OrderForward", spec := "orderForward", unfollowed := true, recurses := true, apart := false, narrowed := true }
def OrderForwardUptoSaid : Prop := orderForwardUptoRow.holds Try.pinned (OpenSpec.upto orderForwardSpec)

/-- 'soughlaw13.SccBetween', WHERE WHAT IT READS IS OF BULK AT MOST 1048576: true; the input reads as it did. -/
def sccBetweenUptoRow : OpenClaim := { program := "ytjflpceoeofomaa", sum := "f42829cb34edb66d2157655388fe3e23c61ed322cca0c6bc1d78f051cee2ac3d", func := "sough/soughlaw13.SccBetween", spec := "sccBetween", unfollowed := true, recurses := true, apart := false, narrowed := true }
def SccBetweenUptoSaid : Prop := sccBetweenUptoRow.holds Try.pinned (OpenSpec.upto sccBetweenSpec)

/-- 'soughlaw13.SccOrder', WHERE WHAT IT READS IS OF BULK AT MOST 1048576: true; the input reads as it did. -/
def sccOrderUptoRow : OpenClaim := { program := "ytjflpceoeofomaa", sum := "f42829cb34edb66d2157655388fe3e23c61ed322cca0c6bc1d78f051cee2ac3d", func := "sough/soughlaw13.SccOrder", spec := "sccOrder", unfollowed := true, recurses := true, apart := false, narrowed := true }
def SccOrderUptoSaid : Prop := sccOrderUptoRow.holds Try.pinned (OpenSpec.upto sccOrderSpec)

/-- 'soughlaw15.ShareTells', WHERE WHAT IT READS IS OF BULK AT MOST 1048576: true; the input reads as it did. -/
def shareTellsUptoRow : OpenClaim := { program := "ytjflpceoeofomaa", sum := "f42829cb34edb66d2157655388fe3e23c61ed322cca0c6bc1d78f051cee2ac3d", func := "sough/soughlaw15.ShareTells", spec := "shareTells", unfollowed := true, recurses := true, apart := false, narrowed := true }
def ShareTellsUptoSaid : Prop := shareTellsUptoRow.holds Try.pinned (OpenSpec.upto shareTellsSpec)

/-- 'soughlaw15.ShareEach', WHERE WHAT IT READS IS OF BULK AT MOST 1048576: true; the input reads as it did. -/
def shareEachUptoRow : OpenClaim := { program := "ytjflpceoeofomaa", sum := "f42829cb34edb66d2157655388fe3e23c61ed322cca0c6bc1d78f051cee2ac3d", func := "sough/soughlaw15.ShareEach", spec := "shareEach", unfollowed := true, recurses := true, apart := false, narrowed := true }
def ShareEachUptoSaid : Prop := shareEachUptoRow.holds Try.pinned (OpenSpec.upto shareEachSpec)

end Rows
end Go.Proofs.Ytjflpceoeofomaa
