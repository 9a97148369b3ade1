/- Part 'M1' of the proof (JFairTexts): lemmas, each with its own conditions in its own statement. -/
import Derived.JoinedOf
import Derived.Test.YthmicpkjickejaaDoorRows
namespace Go.Proofs.YthmicpkjickejaaDoor
set_option maxRecDepth 100000
theorem facts_FairTexts:joinedFacts Tryd.prog 3 Tryd.f3 Rows.fairTextsSpec Rows.fairTextsRow=true:=by kernel_rfl
end Go.Proofs.YthmicpkjickejaaDoor
