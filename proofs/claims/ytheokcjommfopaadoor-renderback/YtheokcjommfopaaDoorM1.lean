/- Part 'M1' of the proof (JRenderBack): lemmas, each with its own conditions in its own statement. -/
import Derived.JoinedOf
import Derived.Test.YtheokcjommfopaaDoorRows
namespace Go.Proofs.YtheokcjommfopaaDoor
set_option maxRecDepth 100000
theorem facts_RenderBack:joinedFacts Tryd.prog 4 Tryd.f4 Rows.renderBackSpec Rows.renderBackRow=true:=by kernel_rfl
end Go.Proofs.YtheokcjommfopaaDoor
