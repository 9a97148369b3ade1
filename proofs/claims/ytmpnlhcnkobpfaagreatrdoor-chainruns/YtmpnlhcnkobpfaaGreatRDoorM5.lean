/- Part 'M5' of the proof (JChainRuns): lemmas, each with its own conditions in its own statement. -/
import Derived.JoinedOf
import Derived.Test.YtmpnlhcnkobpfaaGreatRDoorRows
namespace Go.Proofs.YtmpnlhcnkobpfaaGreatRDoor
set_option maxRecDepth 100000
theorem facts_ChainRuns : joinedFacts Tryz.prog 8 Tryz.f8 Rows.chainRunsSpec Rows.chainRunsRow = true := by kernel_rfl
end Go.Proofs.YtmpnlhcnkobpfaaGreatRDoor
