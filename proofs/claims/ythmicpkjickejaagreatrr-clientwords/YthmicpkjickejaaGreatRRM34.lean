/- Part 'M34' of the proof (It4): lemmas, each with its own conditions in its own statement. -/
import Derived.Test.YthmicpkjickejaaGreatRRM26
import Derived.Test.YthmicpkjickejaaGreatRRM29
namespace Go.Proofs
open Go.RowKit Go.Shelf Go.Sy
set_option maxRecDepth 20000
def TabH (H:Hp):Prop:=∃cells T fr,H 0=some (.cells cells T fr)∧∀j,j<64→cells[j]?=some (.int .u8 (Lib.deBruijn64tab.getD j 0))
theorem TabH.up {H H':Hp} (h:TabH H) (hle:Le H H'):TabH H':=by
 obtain⟨c,T,fr,h1,h2⟩:=h;exact⟨c,T,fr,hle _ _ h1,h2⟩
end Go.Proofs
