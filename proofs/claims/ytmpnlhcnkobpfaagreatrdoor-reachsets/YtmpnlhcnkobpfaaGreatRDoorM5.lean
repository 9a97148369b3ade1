/- Part 'M5' of the proof (JReachSets): lemmas, each with its own conditions in its own statement. -/
import Derived.JoinedOf
import Derived.Test.YtmpnlhcnkobpfaaGreatRDoorRows
namespace Go.Proofs.YtmpnlhcnkobpfaaGreatRDoor
set_option maxRecDepth 100000
theorem facts_ReachSets : joinedFacts Tryz.prog 4 Tryz.f4 Rows.reachSetsSpec Rows.reachSetsRow = true := by kernel_rfl
end Go.Proofs.YtmpnlhcnkobpfaaGreatRDoor
