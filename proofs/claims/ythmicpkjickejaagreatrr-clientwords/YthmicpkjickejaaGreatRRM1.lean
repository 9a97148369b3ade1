/- Part 'M1' of the proof (Fl): lemmas, each with its own conditions in its own statement. -/
import Derived.Laws.ComplexArith
namespace Go.Sy
open Ieee
end Go.Sy
