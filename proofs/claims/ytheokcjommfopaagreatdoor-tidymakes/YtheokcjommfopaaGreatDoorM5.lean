/- Part 'M5' of the proof (JTidyMakes): lemmas, each with its own conditions in its own statement. -/
import Derived.JoinedOf
import Derived.Test.YtheokcjommfopaaGreatDoorRows
set_option maxRecDepth 20000
set_option maxHeartbeats 4000000
namespace Go.Proofs.YtheokcjommfopaaGreatDoor
theorem vd:joinedFacts Tryz.prog 4 Tryz.f4 Rows.tidyMakesSpec Rows.tidyMakesRow=true:=by kernel_rfl
end Go.Proofs.YtheokcjommfopaaGreatDoor
