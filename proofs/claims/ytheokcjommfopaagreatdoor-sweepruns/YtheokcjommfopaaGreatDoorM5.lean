/- Part 'M5' of the proof (JSweepRuns): lemmas, each with its own conditions in its own statement. -/
import Derived.JoinedOf
import Derived.Test.YtheokcjommfopaaGreatDoorRows
namespace Go.Proofs.YtheokcjommfopaaGreatDoor
set_option maxRecDepth 100000
theorem facts_SweepRuns : joinedFacts Tryz.prog 3 Tryz.f3 Rows.sweepRunsSpec Rows.sweepRunsRow = true := by kernel_rfl
end Go.Proofs.YtheokcjommfopaaGreatDoor
