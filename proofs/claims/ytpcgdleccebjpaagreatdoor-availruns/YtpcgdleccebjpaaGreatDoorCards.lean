/-
  DERIVED. GIVEN WITH THE SEED: THE CARDS: each row of YtpcgdleccebjpaaGreatDoorRows.lean that lists a variable, with what it lists TIED to the program's text (the seventh form; the later family's looks); each row that meets fmt, with fmt's text TOLD by the authors' own Lean function (tested against real Go, not proved from fmt's source: count such statements apart). THE CARD IS WHAT COUNTS. Prove the row's statement (the work); the ties are given (YtpcgdleccebjpaaGreatDoorTie.lean); close each card by the builder's one call (the guide's Derived/Test/ToyasCard.lean, 'card_holds'). Laid BY PROGRAM, IN A SANDBOX (cutbox-door.mjs). By AI agents, Wed Nov 11 2026. No macro, syntax, notation, axiom, sorry.
-/
import Derived.Test.YtpcgdleccebjpaaGreatDoorRows
import GoSem.ClaimSeven
namespace Go.Proofs.YtpcgdleccebjpaaGreatDoor
namespace Rows

/-- THE TIED CARD OF 'soughlaw40.AvailSystems'. -/
def availSystemsCard : Claim7 := { stood := { row := availSystemsRow, standIns := [], harness := (true, "af53840d08aa2365343c12e84bbf97195c37118e7fdcd599cdd461690fee4dc8"), looks := false }, kinds := [], alts := [], laidByText := true, laidKinds := [.data], laidTests := true, laidLooks := .later }
def AvailSystemsCardSaid : Prop := Claim7.holds Tryz.pinned (.plain (OpenSpec.ofChange availSystemsSpec)) availSystemsCard

/-- THE TIED CARD OF 'soughlaw40.AvailSets'. -/
def availSetsCard : Claim7 := { stood := { row := availSetsRow, standIns := [], harness := (true, "af53840d08aa2365343c12e84bbf97195c37118e7fdcd599cdd461690fee4dc8"), looks := false }, kinds := [], alts := [], laidByText := true, laidKinds := [.data], laidTests := true, laidLooks := .later }
def AvailSetsCardSaid : Prop := Claim7.holds Tryz.pinned (.plain (OpenSpec.ofChange availSetsSpec)) availSetsCard

/-- THE TIED CARD OF 'soughlaw39.ReachSystems'. -/
def reachSystemsCard : Claim7 := { stood := { row := reachSystemsRow, standIns := [], harness := (true, "af53840d08aa2365343c12e84bbf97195c37118e7fdcd599cdd461690fee4dc8"), looks := false }, kinds := [], alts := [], laidByText := true, laidKinds := [.data], laidTests := true, laidLooks := .later }
def ReachSystemsCardSaid : Prop := Claim7.holds Tryz.pinned (.plain (OpenSpec.ofChange reachSystemsSpec)) reachSystemsCard

/-- THE TIED CARD OF 'soughlaw39.ReachSets'. -/
def reachSetsCard : Claim7 := { stood := { row := reachSetsRow, standIns := [], harness := (true, "af53840d08aa2365343c12e84bbf97195c37118e7fdcd599cdd461690fee4dc8"), looks := false }, kinds := [], alts := [], laidByText := true, laidKinds := [.data], laidTests := true, laidLooks := .later }
def ReachSetsCardSaid : Prop := Claim7.holds Tryz.pinned (.plain (OpenSpec.ofChange reachSetsSpec)) reachSetsCard

/-- THE TIED CARD OF 'soughlaw40.AvailRuns'. -/
def availRunsCard : Claim7 := { stood := { row := availRunsRow, standIns := [], harness := (true, "af53840d08aa2365343c12e84bbf97195c37118e7fdcd599cdd461690fee4dc8"), looks := false }, kinds := [], alts := [], laidByText := true, laidKinds := [.data], laidTests := true, laidLooks := .later }
def AvailRunsCardSaid : Prop := Claim7.holds Tryz.pinned (.plain (OpenSpec.ofChange availRunsSpec)) availRunsCard

/-- THE TIED CARD OF 'soughlaw39.ReachRuns'. -/
def reachRunsCard : Claim7 := { stood := { row := reachRunsRow, standIns := [], harness := (true, "af53840d08aa2365343c12e84bbf97195c37118e7fdcd599cdd461690fee4dc8"), looks := false }, kinds := [], alts := [], laidByText := true, laidKinds := [.data], laidTests := true, laidLooks := .later }
def ReachRunsCardSaid : Prop := Claim7.holds Tryz.pinned (.plain (OpenSpec.ofChange reachRunsSpec)) reachRunsCard

/-- THE TIED CARD OF 'soughlaw38.LiveSystems'. -/
def liveSystemsCard : Claim7 := { stood := { row := liveSystemsRow, standIns := [], harness := (true, "af53840d08aa2365343c12e84bbf97195c37118e7fdcd599cdd461690fee4dc8"), looks := false }, kinds := [], alts := [], laidByText := true, laidKinds := [.data], laidTests := true, laidLooks := .later }
def LiveSystemsCardSaid : Prop := Claim7.holds Tryz.pinned (.plain (OpenSpec.ofChange liveSystemsSpec)) liveSystemsCard

/-- THE TIED CARD OF 'soughlaw38.LiveSets'. -/
def liveSetsCard : Claim7 := { stood := { row := liveSetsRow, standIns := [], harness := (true, "af53840d08aa2365343c12e84bbf97195c37118e7fdcd599cdd461690fee4dc8"), looks := false }, kinds := [], alts := [], laidByText := true, laidKinds := [.data], laidTests := true, laidLooks := .later }
def LiveSetsCardSaid : Prop := Claim7.holds Tryz.pinned (.plain (OpenSpec.ofChange liveSetsSpec)) liveSetsCard

/-- THE TIED CARD OF 'soughlaw38.LiveRuns'. -/
def liveRunsCard : Claim7 := { stood := { row := liveRunsRow, standIns := [], harness := (true, "af53840d08aa2365343c12e84bbf97195c37118e7fdcd599cdd461690fee4dc8"), looks := false }, kinds := [], alts := [], laidByText := true, laidKinds := [.data], laidTests := true, laidLooks := .later }
def LiveRunsCardSaid : Prop := Claim7.holds Tryz.pinned (.plain (OpenSpec.ofChange liveRunsSpec)) liveRunsCard

/-- THE SECOND FORM's CARD OF 'soughlaw40.AvailSystems'. -/
def availSystemsUptoCard : Claim7 := { stood := { row := availSystemsUptoRow, standIns := [], harness := (true, "af53840d08aa2365343c12e84bbf97195c37118e7fdcd599cdd461690fee4dc8"), looks := false }, kinds := [], alts := [], laidByText := true, laidKinds := [.data], laidTests := true, laidLooks := .later }
def AvailSystemsUptoCardSaid : Prop := Claim7.holds Tryz.pinned (.plain (OpenSpec.upto availSystemsSpec)) availSystemsUptoCard

/-- THE SECOND FORM's CARD OF 'soughlaw40.AvailSets'. -/
def availSetsUptoCard : Claim7 := { stood := { row := availSetsUptoRow, standIns := [], harness := (true, "af53840d08aa2365343c12e84bbf97195c37118e7fdcd599cdd461690fee4dc8"), looks := false }, kinds := [], alts := [], laidByText := true, laidKinds := [.data], laidTests := true, laidLooks := .later }
def AvailSetsUptoCardSaid : Prop := Claim7.holds Tryz.pinned (.plain (OpenSpec.upto availSetsSpec)) availSetsUptoCard

/-- THE SECOND FORM's CARD OF 'soughlaw39.ReachSystems'. -/
def reachSystemsUptoCard : Claim7 := { stood := { row := reachSystemsUptoRow, standIns := [], harness := (true, "af53840d08aa2365343c12e84bbf97195c37118e7fdcd599cdd461690fee4dc8"), looks := false }, kinds := [], alts := [], laidByText := true, laidKinds := [.data], laidTests := true, laidLooks := .later }
def ReachSystemsUptoCardSaid : Prop := Claim7.holds Tryz.pinned (.plain (OpenSpec.upto reachSystemsSpec)) reachSystemsUptoCard

/-- THE SECOND FORM's CARD OF 'soughlaw39.ReachSets'. -/
def reachSetsUptoCard : Claim7 := { stood := { row := reachSetsUptoRow, standIns := [], harness := (true, "af53840d08aa2365343c12e84bbf97195c37118e7fdcd599cdd461690fee4dc8"), looks := false }, kinds := [], alts := [], laidByText := true, laidKinds := [.data], laidTests := true, laidLooks := .later }
def ReachSetsUptoCardSaid : Prop := Claim7.holds Tryz.pinned (.plain (OpenSpec.upto reachSetsSpec)) reachSetsUptoCard

/-- THE SECOND FORM's CARD OF 'soughlaw40.AvailRuns'. -/
def availRunsUptoCard : Claim7 := { stood := { row := availRunsUptoRow, standIns := [], harness := (true, "af53840d08aa2365343c12e84bbf97195c37118e7fdcd599cdd461690fee4dc8"), looks := false }, kinds := [], alts := [], laidByText := true, laidKinds := [.data], laidTests := true, laidLooks := .later }
def AvailRunsUptoCardSaid : Prop := Claim7.holds Tryz.pinned (.plain (OpenSpec.upto availRunsSpec)) availRunsUptoCard

/-- THE SECOND FORM's CARD OF 'soughlaw39.ReachRuns'. -/
def reachRunsUptoCard : Claim7 := { stood := { row := reachRunsUptoRow, standIns := [], harness := (true, "af53840d08aa2365343c12e84bbf97195c37118e7fdcd599cdd461690fee4dc8"), looks := false }, kinds := [], alts := [], laidByText := true, laidKinds := [.data], laidTests := true, laidLooks := .later }
def ReachRunsUptoCardSaid : Prop := Claim7.holds Tryz.pinned (.plain (OpenSpec.upto reachRunsSpec)) reachRunsUptoCard

/-- THE SECOND FORM's CARD OF 'soughlaw38.LiveSystems'. -/
def liveSystemsUptoCard : Claim7 := { stood := { row := liveSystemsUptoRow, standIns := [], harness := (true, "af53840d08aa2365343c12e84bbf97195c37118e7fdcd599cdd461690fee4dc8"), looks := false }, kinds := [], alts := [], laidByText := true, laidKinds := [.data], laidTests := true, laidLooks := .later }
def LiveSystemsUptoCardSaid : Prop := Claim7.holds Tryz.pinned (.plain (OpenSpec.upto liveSystemsSpec)) liveSystemsUptoCard

/-- THE SECOND FORM's CARD OF 'soughlaw38.LiveSets'. -/
def liveSetsUptoCard : Claim7 := { stood := { row := liveSetsUptoRow, standIns := [], harness := (true, "af53840d08aa2365343c12e84bbf97195c37118e7fdcd599cdd461690fee4dc8"), looks := false }, kinds := [], alts := [], laidByText := true, laidKinds := [.data], laidTests := true, laidLooks := .later }
def LiveSetsUptoCardSaid : Prop := Claim7.holds Tryz.pinned (.plain (OpenSpec.upto liveSetsSpec)) liveSetsUptoCard

/-- THE SECOND FORM's CARD OF 'soughlaw38.LiveRuns'. -/
def liveRunsUptoCard : Claim7 := { stood := { row := liveRunsUptoRow, standIns := [], harness := (true, "af53840d08aa2365343c12e84bbf97195c37118e7fdcd599cdd461690fee4dc8"), looks := false }, kinds := [], alts := [], laidByText := true, laidKinds := [.data], laidTests := true, laidLooks := .later }
def LiveRunsUptoCardSaid : Prop := Claim7.holds Tryz.pinned (.plain (OpenSpec.upto liveRunsSpec)) liveRunsUptoCard
end Rows
end Go.Proofs.YtpcgdleccebjpaaGreatDoor
