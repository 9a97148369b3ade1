/- Part 'M3' of the proof (Gw0): lemmas, each with its own conditions in its own statement. -/
import Derived.Shelf.Spec.SlicesGrow
import Derived.Test.YthmicpkjickejaaGreatRRProg
namespace Go.Proofs
open Go.Shelf
end Go.Proofs
