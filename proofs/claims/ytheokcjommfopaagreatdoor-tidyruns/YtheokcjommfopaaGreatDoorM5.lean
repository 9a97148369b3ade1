/- Part 'M5' of the proof (JTidyRuns): lemmas, each with its own conditions in its own statement. -/
import Derived.JoinedOf
import Derived.Test.YtheokcjommfopaaGreatDoorRows
namespace Go.Proofs.YtheokcjommfopaaGreatDoor
set_option maxRecDepth 100000
theorem facts_TidyRuns:joinedFacts Tryz.prog 6 Tryz.f6 Rows.tidyRunsSpec Rows.tidyRunsRow=true:=by kernel_rfl
end Go.Proofs.YtheokcjommfopaaGreatDoor
