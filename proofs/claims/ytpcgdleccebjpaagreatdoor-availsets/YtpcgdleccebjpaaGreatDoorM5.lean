/- Part 'M5' of the proof (JAvailSets): lemmas, each with its own conditions in its own statement. -/
import Derived.JoinedOf
import Derived.Test.YtpcgdleccebjpaaGreatDoorRows
namespace Go.Proofs.YtpcgdleccebjpaaGreatDoor
set_option maxRecDepth 100000
theorem facts_AvailSets : joinedFacts Tryz.prog 4 Tryz.f4 Rows.availSetsSpec Rows.availSetsRow = true := by kernel_rfl
end Go.Proofs.YtpcgdleccebjpaaGreatDoor
