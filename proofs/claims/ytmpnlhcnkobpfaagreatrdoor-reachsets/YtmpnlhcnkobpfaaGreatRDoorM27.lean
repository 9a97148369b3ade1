/- Part 'M27' of the proof (Ss1, Ss2): lemmas, each with its own conditions in its own statement. -/
import Derived.Test.YtmpnlhcnkobpfaaGreatRDoorM20
import Derived.Test.YtmpnlhcnkobpfaaGreatRDoorM25
import Derived.Test.YtmpnlhcnkobpfaaGreatRDoorM8
section
namespace Go.Proofs
open Go.Sy Go.Sort Go.Shelf
set_option maxRecDepth 20000
instance : LO Bs8 where
  lt a b := a < b
  dec a b := inferInstanceAs (Decidable (a < b))
  deq := inferInstance
  irrefl := slt_irrefl
  trans := slt_trans
  tri := slt_tri
end Go.Proofs
end
section
namespace Go.Proofs
open Go.Sy
set_option maxRecDepth 20000
end Go.Proofs
end
