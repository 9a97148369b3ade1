/- Part 'M5' of the proof (JLiveSets): lemmas, each with its own conditions in its own statement. -/
import Derived.JoinedOf
import Derived.Test.YtpcgdleccebjpaaGreatDoorRows
namespace Go.Proofs.YtpcgdleccebjpaaGreatDoor
set_option maxRecDepth 100000
theorem facts_LiveSets : joinedFacts Tryz.prog 10 Tryz.f10 Rows.liveSetsSpec Rows.liveSetsRow = true := by kernel_rfl
end Go.Proofs.YtpcgdleccebjpaaGreatDoor
