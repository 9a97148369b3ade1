/- Part 'M5' of the proof (JChainTells): lemmas, each with its own conditions in its own statement. -/
import Derived.JoinedOf
import Derived.Test.YtmpnlhcnkobpfaaGreatRDoorRows
namespace Go.Proofs.YtmpnlhcnkobpfaaGreatRDoor
set_option maxRecDepth 100000
theorem facts_ChainTells : joinedFacts Tryz.prog 7 Tryz.f7 Rows.chainTellsSpec Rows.chainTellsRow = true := by kernel_rfl
end Go.Proofs.YtmpnlhcnkobpfaaGreatRDoor
