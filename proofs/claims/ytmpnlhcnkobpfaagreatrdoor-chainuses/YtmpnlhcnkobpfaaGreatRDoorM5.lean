/- Part 'M5' of the proof (JChainUses): lemmas, each with its own conditions in its own statement. -/
import Derived.JoinedOf
import Derived.Test.YtmpnlhcnkobpfaaGreatRDoorRows
namespace Go.Proofs.YtmpnlhcnkobpfaaGreatRDoor
set_option maxRecDepth 100000
theorem facts_ChainUses : joinedFacts Tryz.prog 6 Tryz.f6 Rows.chainUsesSpec Rows.chainUsesRow = true := by kernel_rfl
end Go.Proofs.YtmpnlhcnkobpfaaGreatRDoor
