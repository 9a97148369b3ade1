/- Part 'M11' of the proof (Br, Pg): lemmas, each with its own conditions in its own statement. -/
import Derived.Deep.Draws
import Derived.Laws.IdiomCopy
import Derived.Sort.Grow
import Derived.Test.YthmicpkjickejaaDoorM7
section
namespace Go.Sy
open Go.RowKit (Below)
end Go.Sy
end
section
/- Plain words: programs as data, and how they lie in memory. -/
namespace Go.Proofs
open Go.Sy
end Go.Proofs
end
