/- Part 'M5' of the proof (JLiveRuns): lemmas, each with its own conditions in its own statement. -/
import Derived.JoinedOf
import Derived.Test.YtpcgdleccebjpaaGreatDoorRows
namespace Go.Proofs.YtpcgdleccebjpaaGreatDoor
set_option maxRecDepth 100000
theorem facts_LiveRuns : joinedFacts Tryz.prog 11 Tryz.f11 Rows.liveRunsSpec Rows.liveRunsRow = true := by kernel_rfl
end Go.Proofs.YtpcgdleccebjpaaGreatDoor
