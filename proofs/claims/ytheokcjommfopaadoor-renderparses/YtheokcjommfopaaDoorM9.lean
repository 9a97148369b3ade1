/- Part 'M9' of the proof (E13, E14, E15, E16, E17): lemmas, each with its own conditions in its own statement. -/
import Derived.Test.YtheokcjommfopaaDoorM0
import Derived.Test.YtheokcjommfopaaDoorM8
section
namespace Go.Proofs
open Go.Sy
set_option maxRecDepth 20000
end Go.Proofs
end
section
namespace Go.Proofs
open Go.Sy
set_option maxRecDepth 20000
end Go.Proofs
end
section
namespace Go.Proofs
open Go.Sy
end Go.Proofs
end
section
namespace Go.Proofs
open Go.Sy
set_option maxRecDepth 20000
end Go.Proofs
end
section
namespace Go.Proofs
open Go.Sy
set_option maxRecDepth 20000
end Go.Proofs
end
