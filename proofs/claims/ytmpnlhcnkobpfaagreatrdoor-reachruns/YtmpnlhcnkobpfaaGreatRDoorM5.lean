/- Part 'M5' of the proof (JReachRuns): lemmas, each with its own conditions in its own statement. -/
import Derived.JoinedOf
import Derived.Test.YtmpnlhcnkobpfaaGreatRDoorRows
namespace Go.Proofs.YtmpnlhcnkobpfaaGreatRDoor
set_option maxRecDepth 100000
theorem facts_ReachRuns : joinedFacts Tryz.prog 5 Tryz.f5 Rows.reachRunsSpec Rows.reachRunsRow = true := by kernel_rfl
end Go.Proofs.YtmpnlhcnkobpfaaGreatRDoor
