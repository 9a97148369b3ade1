/-
  DERIVED. GIVEN WITH THE SEED: THE CARDS: each row of YtheokcjommfopaaGreatDoorRows.lean that lists a variable, with what it lists TIED to the program's text (the seventh form; the later family's looks); each row that meets fmt, with fmt's text TOLD by the authors' own Lean function (tested against real Go, not proved from fmt's source: count such statements apart). THE CARD IS WHAT COUNTS. Prove the row's statement (the work); the ties are given (YtheokcjommfopaaGreatDoorTie.lean); close each card by the builder's one call (the guide's Derived/Test/ToyasCard.lean, 'card_holds'). Laid BY PROGRAM, IN A SANDBOX (cutbox-door.mjs). By AI agents, Wed Nov 11 2026. No macro, syntax, notation, axiom, sorry.
-/
import Derived.Test.YtheokcjommfopaaGreatDoorRows
import GoSem.ClaimSeven
namespace Go.Proofs.YtheokcjommfopaaGreatDoor
namespace Rows

/-- THE TIED CARD OF 'soughlaw46.SweepRuns'. -/
def sweepRunsCard : Claim7 := { stood := { row := sweepRunsRow, standIns := [], harness := (true, "0727561a35e6b4cc8a2f45baa14af9e7500ba553f2fb0ca3ae0f5673a8046414"), looks := false }, kinds := [], alts := [], laidByText := true, laidKinds := [.data], laidTests := true, laidLooks := .later }
def SweepRunsCardSaid : Prop := Claim7.holds Tryz.pinned (.plain (OpenSpec.ofChange sweepRunsSpec)) sweepRunsCard

/-- THE TIED CARD OF 'soughlaw49.TidyMakes'. -/
def tidyMakesCard : Claim7 := { stood := { row := tidyMakesRow, standIns := [], harness := (true, "0727561a35e6b4cc8a2f45baa14af9e7500ba553f2fb0ca3ae0f5673a8046414"), looks := false }, kinds := [], alts := [], laidByText := true, laidKinds := [.data], laidTests := true, laidLooks := .later }
def TidyMakesCardSaid : Prop := Claim7.holds Tryz.pinned (.plain (OpenSpec.ofChange tidyMakesSpec)) tidyMakesCard

/-- THE TIED CARD OF 'soughlaw49.TidyWeighs'. -/
def tidyWeighsCard : Claim7 := { stood := { row := tidyWeighsRow, standIns := [], harness := (true, "0727561a35e6b4cc8a2f45baa14af9e7500ba553f2fb0ca3ae0f5673a8046414"), looks := false }, kinds := [], alts := [], laidByText := true, laidKinds := [.data], laidTests := true, laidLooks := .later }
def TidyWeighsCardSaid : Prop := Claim7.holds Tryz.pinned (.plain (OpenSpec.ofChange tidyWeighsSpec)) tidyWeighsCard

/-- THE TIED CARD OF 'soughlaw49.TidyRuns'. -/
def tidyRunsCard : Claim7 := { stood := { row := tidyRunsRow, standIns := [], harness := (true, "0727561a35e6b4cc8a2f45baa14af9e7500ba553f2fb0ca3ae0f5673a8046414"), looks := false }, kinds := [], alts := [], laidByText := true, laidKinds := [.data], laidTests := true, laidLooks := .later }
def TidyRunsCardSaid : Prop := Claim7.holds Tryz.pinned (.plain (OpenSpec.ofChange tidyRunsSpec)) tidyRunsCard

/-- THE SECOND FORM's CARD OF 'soughlaw46.SweepRuns'. -/
def sweepRunsUptoCard : Claim7 := { stood := { row := sweepRunsUptoRow, standIns := [], harness := (true, "0727561a35e6b4cc8a2f45baa14af9e7500ba553f2fb0ca3ae0f5673a8046414"), looks := false }, kinds := [], alts := [], laidByText := true, laidKinds := [.data], laidTests := true, laidLooks := .later }
def SweepRunsUptoCardSaid : Prop := Claim7.holds Tryz.pinned (.plain (OpenSpec.upto sweepRunsSpec)) sweepRunsUptoCard

/-- THE SECOND FORM's CARD OF 'soughlaw49.TidyMakes'. -/
def tidyMakesUptoCard : Claim7 := { stood := { row := tidyMakesUptoRow, standIns := [], harness := (true, "0727561a35e6b4cc8a2f45baa14af9e7500ba553f2fb0ca3ae0f5673a8046414"), looks := false }, kinds := [], alts := [], laidByText := true, laidKinds := [.data], laidTests := true, laidLooks := .later }
def TidyMakesUptoCardSaid : Prop := Claim7.holds Tryz.pinned (.plain (OpenSpec.upto tidyMakesSpec)) tidyMakesUptoCard

/-- THE SECOND FORM's CARD OF 'soughlaw49.TidyWeighs'. -/
def tidyWeighsUptoCard : Claim7 := { stood := { row := tidyWeighsUptoRow, standIns := [], harness := (true, "0727561a35e6b4cc8a2f45baa14af9e7500ba553f2fb0ca3ae0f5673a8046414"), looks := false }, kinds := [], alts := [], laidByText := true, laidKinds := [.data], laidTests := true, laidLooks := .later }
def TidyWeighsUptoCardSaid : Prop := Claim7.holds Tryz.pinned (.plain (OpenSpec.upto tidyWeighsSpec)) tidyWeighsUptoCard

/-- THE SECOND FORM's CARD OF 'soughlaw49.TidyRuns'. -/
def tidyRunsUptoCard : Claim7 := { stood := { row := tidyRunsUptoRow, standIns := [], harness := (true, "0727561a35e6b4cc8a2f45baa14af9e7500ba553f2fb0ca3ae0f5673a8046414"), looks := false }, kinds := [], alts := [], laidByText := true, laidKinds := [.data], laidTests := true, laidLooks := .later }
def TidyRunsUptoCardSaid : Prop := Claim7.holds Tryz.pinned (.plain (OpenSpec.upto tidyRunsSpec)) tidyRunsUptoCard
end Rows
end Go.Proofs.YtheokcjommfopaaGreatDoor
