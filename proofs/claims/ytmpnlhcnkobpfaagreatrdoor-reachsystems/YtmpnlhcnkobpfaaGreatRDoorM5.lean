/- Part 'M5' of the proof (JReachSystems): lemmas, each with its own conditions in its own statement. -/
import Derived.JoinedOf
import Derived.Test.YtmpnlhcnkobpfaaGreatRDoorRows
namespace Go.Proofs.YtmpnlhcnkobpfaaGreatRDoor
set_option maxRecDepth 100000
theorem facts_ReachSystems : joinedFacts Tryz.prog 3 Tryz.f3 Rows.reachSystemsSpec Rows.reachSystemsRow = true := by kernel_rfl
end Go.Proofs.YtmpnlhcnkobpfaaGreatRDoor
