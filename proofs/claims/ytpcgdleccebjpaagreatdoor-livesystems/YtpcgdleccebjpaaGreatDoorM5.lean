/- Part 'M5' of the proof (JLiveSystems): lemmas, each with its own conditions in its own statement. -/
import Derived.JoinedOf
import Derived.Test.YtpcgdleccebjpaaGreatDoorRows
namespace Go.Proofs.YtpcgdleccebjpaaGreatDoor
set_option maxRecDepth 100000
theorem facts_LiveSystems : joinedFacts Tryz.prog 9 Tryz.f9 Rows.liveSystemsSpec Rows.liveSystemsRow = true := by kernel_rfl
end Go.Proofs.YtpcgdleccebjpaaGreatDoor
