/- Part 'M5' of the proof (JAvailRuns): lemmas, each with its own conditions in its own statement. -/
import Derived.JoinedOf
import Derived.Test.YtpcgdleccebjpaaGreatDoorRows
namespace Go.Proofs.YtpcgdleccebjpaaGreatDoor
set_option maxRecDepth 100000
theorem facts_AvailRuns : joinedFacts Tryz.prog 7 Tryz.f7 Rows.availRunsSpec Rows.availRunsRow = true := by kernel_rfl
end Go.Proofs.YtpcgdleccebjpaaGreatDoor
