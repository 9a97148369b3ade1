/- Part 'M7' of the proof (Rg): lemmas, each with its own conditions in its own statement. -/
import Derived.RangeFuncBound
import Derived.RangeFuncCalls
import Derived.RangeFuncLeaves
import Derived.RangeFuncNested
namespace Go.Sy
open Go.RowKit
end Go.Sy
