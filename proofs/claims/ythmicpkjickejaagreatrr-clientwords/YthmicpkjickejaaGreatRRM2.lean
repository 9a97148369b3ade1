/- Part 'M2' of the proof (It0): lemmas, each with its own conditions in its own statement. -/
import Derived.Lib.TrailingZeros
namespace Go.Proofs
set_option maxRecDepth 20000
end Go.Proofs
