/- Part 'M5' of the proof (JTidyWeighs): lemmas, each with its own conditions in its own statement. -/
import Derived.JoinedOf
import Derived.Test.YtheokcjommfopaaGreatDoorRows
namespace Go.Proofs.YtheokcjommfopaaGreatDoor
set_option maxRecDepth 100000
theorem facts_TidyWeighs:joinedFacts Tryz.prog 5 Tryz.f5 Rows.tidyWeighsSpec Rows.tidyWeighsRow=true:=by kernel_rfl
end Go.Proofs.YtheokcjommfopaaGreatDoor
