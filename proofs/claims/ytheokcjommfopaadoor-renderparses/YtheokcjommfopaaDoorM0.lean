/- Part 'M0' of the proof (Sh1): lemmas, each with its own conditions in its own statement. -/
import Derived.Shelf.Bits.Mul64
import Derived.Test.YtheokcjommfopaaDoorProg
namespace Go.Proofs
open Go.Shelf
end Go.Proofs
