/-
  DERIVED. GIVEN WITH THE SEED: THE CARDS: each row of YthmicpkjickejaaDoorRows.lean that lists a variable, with what it lists TIED to the program's text (the seventh form; the later family's looks); each row that meets fmt, with fmt's text TOLD by the authors' own Lean function (tested against real Go, not proved from fmt's source: count such statements apart). THE CARD IS WHAT COUNTS. Prove the row's statement (the work); the ties are given (YthmicpkjickejaaDoorTie.lean); close each card by the builder's one call (the guide's Derived/Test/ToyasCard.lean, 'card_holds'). Laid BY PROGRAM, IN A SANDBOX (cutbox-door.mjs). By AI agents, Wed Nov 11 2026. No macro, syntax, notation, axiom, sorry.
-/
import Derived.Test.YthmicpkjickejaaDoorRows
import GoSem.ClaimSeven
namespace Go.Proofs.YthmicpkjickejaaDoor
namespace Rows

/-- THE TIED CARD OF 'soughlaw26.FairTexts'. -/
def fairTextsCard : Claim7 := { stood := { row := fairTextsRow, standIns := [], harness := (true, "5755fe442577b8befb09328251ba7599a2867afd6d7a2af54776842c81fe863f"), looks := false }, kinds := [], alts := [], laidByText := true, laidKinds := [.data, .pinned], laidTests := true, laidLooks := .later }
def FairTextsCardSaid : Prop := Claim7.holds Tryd.pinned (.plain (OpenSpec.ofChange fairTextsSpec)) fairTextsCard

/-- THE SECOND FORM's CARD OF 'soughlaw26.FairTexts'. -/
def fairTextsUptoCard : Claim7 := { stood := { row := fairTextsUptoRow, standIns := [], harness := (true, "5755fe442577b8befb09328251ba7599a2867afd6d7a2af54776842c81fe863f"), looks := false }, kinds := [], alts := [], laidByText := true, laidKinds := [.data, .pinned], laidTests := true, laidLooks := .later }
def FairTextsUptoCardSaid : Prop := Claim7.holds Tryd.pinned (.plain (OpenSpec.upto fairTextsSpec)) fairTextsUptoCard
end Rows
end Go.Proofs.YthmicpkjickejaaDoor
