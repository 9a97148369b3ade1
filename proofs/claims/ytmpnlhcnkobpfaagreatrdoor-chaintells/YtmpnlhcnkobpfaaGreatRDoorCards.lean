/-
  DERIVED. GIVEN WITH THE SEED: THE CARDS: each row of YtmpnlhcnkobpfaaGreatRDoorRows.lean that lists a variable, with what it lists TIED to the program's text (the seventh form; the later family's looks); each row that meets fmt, with fmt's text TOLD by the authors' own Lean function (tested against real Go, not proved from fmt's source: count such statements apart). THE CARD IS WHAT COUNTS. Prove the row's statement (the work); the ties are given (YtmpnlhcnkobpfaaGreatRDoorTie.lean); close each card by the builder's one call (the guide's Derived/Test/ToyasCard.lean, 'card_holds'). Laid BY PROGRAM, IN A SANDBOX (cutbox-door.mjs). By AI agents, Wed Nov 11 2026. No macro, syntax, notation, axiom, sorry.
-/
import Derived.Test.YtmpnlhcnkobpfaaGreatRDoorRows
import GoSem.ClaimSeven
namespace Go.Proofs.YtmpnlhcnkobpfaaGreatRDoor
namespace Rows

/-- THE TIED CARD OF 'soughlaw39.ReachSystems'. -/
def reachSystemsCard : Claim7 := { stood := { row := reachSystemsRow, standIns := [], harness := (true, "38f34f9ff41714922b49aee11b45fe5ca63bac4b421a3f2963c031338a9965bb"), looks := false }, kinds := [], alts := [], laidByText := true, laidKinds := [.data], laidTests := true, laidLooks := .later }
def ReachSystemsCardSaid : Prop := Claim7.holds Tryz.pinned (.plain (OpenSpec.ofChange reachSystemsSpec)) reachSystemsCard

/-- THE TIED CARD OF 'soughlaw39.ReachSets'. -/
def reachSetsCard : Claim7 := { stood := { row := reachSetsRow, standIns := [], harness := (true, "38f34f9ff41714922b49aee11b45fe5ca63bac4b421a3f2963c031338a9965bb"), looks := false }, kinds := [], alts := [], laidByText := true, laidKinds := [.data], laidTests := true, laidLooks := .later }
def ReachSetsCardSaid : Prop := Claim7.holds Tryz.pinned (.plain (OpenSpec.ofChange reachSetsSpec)) reachSetsCard

/-- THE TIED CARD OF 'soughlaw39.ReachRuns'. -/
def reachRunsCard : Claim7 := { stood := { row := reachRunsRow, standIns := [], harness := (true, "38f34f9ff41714922b49aee11b45fe5ca63bac4b421a3f2963c031338a9965bb"), looks := false }, kinds := [], alts := [], laidByText := true, laidKinds := [.data], laidTests := true, laidLooks := .later }
def ReachRunsCardSaid : Prop := Claim7.holds Tryz.pinned (.plain (OpenSpec.ofChange reachRunsSpec)) reachRunsCard

/-- THE TIED CARD OF 'soughlaw48.ChainUses'. -/
def chainUsesCard : Claim7 := { stood := { row := chainUsesRow, standIns := [], harness := (true, "38f34f9ff41714922b49aee11b45fe5ca63bac4b421a3f2963c031338a9965bb"), looks := false }, kinds := [], alts := [], laidByText := true, laidKinds := [.data], laidTests := true, laidLooks := .later }
def ChainUsesCardSaid : Prop := Claim7.holds Tryz.pinned (.plain (OpenSpec.ofChange chainUsesSpec)) chainUsesCard

/-- THE TIED CARD OF 'soughlaw48.ChainTells'. -/
def chainTellsCard : Claim7 := { stood := { row := chainTellsRow, standIns := [], harness := (true, "38f34f9ff41714922b49aee11b45fe5ca63bac4b421a3f2963c031338a9965bb"), looks := false }, kinds := [], alts := [], laidByText := true, laidKinds := [.data], laidTests := true, laidLooks := .later }
def ChainTellsCardSaid : Prop := Claim7.holds Tryz.pinned (.plain (OpenSpec.ofChange chainTellsSpec)) chainTellsCard

/-- THE TIED CARD OF 'soughlaw48.ChainRuns'. -/
def chainRunsCard : Claim7 := { stood := { row := chainRunsRow, standIns := [], harness := (true, "38f34f9ff41714922b49aee11b45fe5ca63bac4b421a3f2963c031338a9965bb"), looks := false }, kinds := [], alts := [], laidByText := true, laidKinds := [.data], laidTests := true, laidLooks := .later }
def ChainRunsCardSaid : Prop := Claim7.holds Tryz.pinned (.plain (OpenSpec.ofChange chainRunsSpec)) chainRunsCard

/-- THE TIED CARD OF 'soughlaw46.SweepRuns'. -/
def sweepRunsCard : Claim7 := { stood := { row := sweepRunsRow, standIns := [], harness := (true, "38f34f9ff41714922b49aee11b45fe5ca63bac4b421a3f2963c031338a9965bb"), looks := false }, kinds := [], alts := [], laidByText := true, laidKinds := [.data], laidTests := true, laidLooks := .later }
def SweepRunsCardSaid : Prop := Claim7.holds Tryz.pinned (.plain (OpenSpec.ofChange sweepRunsSpec)) sweepRunsCard

/-- THE SECOND FORM's CARD OF 'soughlaw39.ReachSystems'. -/
def reachSystemsUptoCard : Claim7 := { stood := { row := reachSystemsUptoRow, standIns := [], harness := (true, "38f34f9ff41714922b49aee11b45fe5ca63bac4b421a3f2963c031338a9965bb"), looks := false }, kinds := [], alts := [], laidByText := true, laidKinds := [.data], laidTests := true, laidLooks := .later }
def ReachSystemsUptoCardSaid : Prop := Claim7.holds Tryz.pinned (.plain (OpenSpec.upto reachSystemsSpec)) reachSystemsUptoCard

/-- THE SECOND FORM's CARD OF 'soughlaw39.ReachSets'. -/
def reachSetsUptoCard : Claim7 := { stood := { row := reachSetsUptoRow, standIns := [], harness := (true, "38f34f9ff41714922b49aee11b45fe5ca63bac4b421a3f2963c031338a9965bb"), looks := false }, kinds := [], alts := [], laidByText := true, laidKinds := [.data], laidTests := true, laidLooks := .later }
def ReachSetsUptoCardSaid : Prop := Claim7.holds Tryz.pinned (.plain (OpenSpec.upto reachSetsSpec)) reachSetsUptoCard

/-- THE SECOND FORM's CARD OF 'soughlaw39.ReachRuns'. -/
def reachRunsUptoCard : Claim7 := { stood := { row := reachRunsUptoRow, standIns := [], harness := (true, "38f34f9ff41714922b49aee11b45fe5ca63bac4b421a3f2963c031338a9965bb"), looks := false }, kinds := [], alts := [], laidByText := true, laidKinds := [.data], laidTests := true, laidLooks := .later }
def ReachRunsUptoCardSaid : Prop := Claim7.holds Tryz.pinned (.plain (OpenSpec.upto reachRunsSpec)) reachRunsUptoCard

/-- THE SECOND FORM's CARD OF 'soughlaw48.ChainUses'. -/
def chainUsesUptoCard : Claim7 := { stood := { row := chainUsesUptoRow, standIns := [], harness := (true, "38f34f9ff41714922b49aee11b45fe5ca63bac4b421a3f2963c031338a9965bb"), looks := false }, kinds := [], alts := [], laidByText := true, laidKinds := [.data], laidTests := true, laidLooks := .later }
def ChainUsesUptoCardSaid : Prop := Claim7.holds Tryz.pinned (.plain (OpenSpec.upto chainUsesSpec)) chainUsesUptoCard

/-- THE SECOND FORM's CARD OF 'soughlaw48.ChainTells'. -/
def chainTellsUptoCard : Claim7 := { stood := { row := chainTellsUptoRow, standIns := [], harness := (true, "38f34f9ff41714922b49aee11b45fe5ca63bac4b421a3f2963c031338a9965bb"), looks := false }, kinds := [], alts := [], laidByText := true, laidKinds := [.data], laidTests := true, laidLooks := .later }
def ChainTellsUptoCardSaid : Prop := Claim7.holds Tryz.pinned (.plain (OpenSpec.upto chainTellsSpec)) chainTellsUptoCard

/-- THE SECOND FORM's CARD OF 'soughlaw48.ChainRuns'. -/
def chainRunsUptoCard : Claim7 := { stood := { row := chainRunsUptoRow, standIns := [], harness := (true, "38f34f9ff41714922b49aee11b45fe5ca63bac4b421a3f2963c031338a9965bb"), looks := false }, kinds := [], alts := [], laidByText := true, laidKinds := [.data], laidTests := true, laidLooks := .later }
def ChainRunsUptoCardSaid : Prop := Claim7.holds Tryz.pinned (.plain (OpenSpec.upto chainRunsSpec)) chainRunsUptoCard

/-- THE SECOND FORM's CARD OF 'soughlaw46.SweepRuns'. -/
def sweepRunsUptoCard : Claim7 := { stood := { row := sweepRunsUptoRow, standIns := [], harness := (true, "38f34f9ff41714922b49aee11b45fe5ca63bac4b421a3f2963c031338a9965bb"), looks := false }, kinds := [], alts := [], laidByText := true, laidKinds := [.data], laidTests := true, laidLooks := .later }
def SweepRunsUptoCardSaid : Prop := Claim7.holds Tryz.pinned (.plain (OpenSpec.upto sweepRunsSpec)) sweepRunsUptoCard
end Rows
end Go.Proofs.YtmpnlhcnkobpfaaGreatRDoor
