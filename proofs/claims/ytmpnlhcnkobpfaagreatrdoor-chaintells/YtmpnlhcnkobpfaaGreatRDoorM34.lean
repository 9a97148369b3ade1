/- Part 'M34' of the proof (Av0): lemmas, each with its own conditions in its own statement. -/
import Derived.DeepKeys4
import Derived.Test.YtmpnlhcnkobpfaaGreatRDoorM33
namespace Go.Proofs
open Go.Sy
set_option maxRecDepth 20000
set_option maxHeartbeats 4000000
end Go.Proofs
