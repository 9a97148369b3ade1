/- Part 'M26' of the proof (It2, It3): lemmas, each with its own conditions in its own statement. -/
import Derived.Maps.AppendAt
import Derived.RangeFuncBox
import Derived.RangeFuncWrites
import Derived.Test.YthmicpkjickejaaGreatRRM12
import Derived.Test.YthmicpkjickejaaGreatRRM13
import Derived.Test.YthmicpkjickejaaGreatRRM15
import Derived.Test.YthmicpkjickejaaGreatRRM25
import Derived.Test.YthmicpkjickejaaGreatRRM7
section
namespace Go.Proofs
open Go.RowKit Go.Shelf Go.Sy
attribute [local go_sem] Oper.semAt_some
end Go.Proofs
end
section
namespace Go.Proofs
open Go.RowKit Go.Shelf Go.Sy
attribute [local go_sem] Oper.semAt_some
end Go.Proofs
end
