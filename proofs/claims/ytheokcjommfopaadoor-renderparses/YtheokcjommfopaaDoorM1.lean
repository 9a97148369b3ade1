/- Part 'M1' of the proof (JRenderParses): lemmas, each with its own conditions in its own statement. -/
import Derived.JoinedOf
import Derived.Test.YtheokcjommfopaaDoorRows
namespace Go.Proofs.YtheokcjommfopaaDoor
set_option maxRecDepth 100000
theorem facts_RenderParses:joinedFacts Tryd.prog 3 Tryd.f3 Rows.renderParsesSpec Rows.renderParsesRow=true:=by kernel_rfl
end Go.Proofs.YtheokcjommfopaaDoor
