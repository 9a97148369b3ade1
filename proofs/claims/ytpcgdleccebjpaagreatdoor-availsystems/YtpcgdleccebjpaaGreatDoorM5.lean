/- Part 'M5' of the proof (JAvailSystems): lemmas, each with its own conditions in its own statement. -/
import Derived.JoinedOf
import Derived.Test.YtpcgdleccebjpaaGreatDoorRows
namespace Go.Proofs.YtpcgdleccebjpaaGreatDoor
set_option maxRecDepth 100000
theorem facts_AvailSystems : joinedFacts Tryz.prog 3 Tryz.f3 Rows.availSystemsSpec Rows.availSystemsRow = true := by kernel_rfl
end Go.Proofs.YtpcgdleccebjpaaGreatDoor
