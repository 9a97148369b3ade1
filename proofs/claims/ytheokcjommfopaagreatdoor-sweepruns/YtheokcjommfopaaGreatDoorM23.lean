/- Part 'M23' of the proof (Si1, Si2): lemmas, each with its own conditions in its own statement. -/
import Derived.Test.YtheokcjommfopaaGreatDoorM19
import Derived.Test.YtheokcjommfopaaGreatDoorM8
section
namespace Go.Proofs
open Go.Sy Go.Sort Go.Shelf
set_option maxRecDepth 20000
end Go.Proofs
end
section
namespace Go.Proofs
open Go.Sy
set_option maxRecDepth 20000
end Go.Proofs
end
