/-
  DERIVED. GIVEN WITH THE SEED: THE CARDS: each row of YtheokcjommfopaaDoorRows.lean that lists a variable, with what it lists TIED to the program's text (the seventh form; the later family's looks); each row that meets fmt, with fmt's text TOLD by the authors' own Lean function (tested against real Go, not proved from fmt's source: count such statements apart). THE CARD IS WHAT COUNTS. Prove the row's statement (the work); the ties are given (YtheokcjommfopaaDoorTie.lean); close each card by the builder's one call (the guide's Derived/Test/ToyasCard.lean, 'card_holds'). Laid BY PROGRAM, IN A SANDBOX (cutbox-door.mjs). By AI agents, Wed Nov 11 2026. No macro, syntax, notation, axiom, sorry.
-/
import Derived.Test.YtheokcjommfopaaDoorRows
import GoSem.ClaimSeven
namespace Go.Proofs.YtheokcjommfopaaDoor
namespace Rows

/-- THE TIED CARD OF 'soughlaw43.RenderParses'. -/
def renderParsesCard : Claim7 := { stood := { row := renderParsesRow, standIns := [], harness := (true, "a8f3591521e7893e379ab30cd025deee45633e0ee864b3306e578aba69f68caf"), looks := false }, kinds := [], alts := [], laidByText := true, laidKinds := [.data, .pinned], laidTests := true, laidLooks := .later }
def RenderParsesCardSaid : Prop := Claim7.holds Tryd.pinned (.plain (OpenSpec.ofChange renderParsesSpec)) renderParsesCard

/-- THE TIED CARD OF 'soughlaw43.RenderBack'. -/
def renderBackCard : Claim7 := { stood := { row := renderBackRow, standIns := [], harness := (true, "a8f3591521e7893e379ab30cd025deee45633e0ee864b3306e578aba69f68caf"), looks := false }, kinds := [], alts := [], laidByText := true, laidKinds := [.data, .pinned], laidTests := true, laidLooks := .later }
def RenderBackCardSaid : Prop := Claim7.holds Tryd.pinned (.plain (OpenSpec.ofChange renderBackSpec)) renderBackCard

/-- THE TIED CARD OF 'soughlaw26.FairTexts'. -/
def fairTextsCard : Claim7 := { stood := { row := fairTextsRow, standIns := [], harness := (true, "a8f3591521e7893e379ab30cd025deee45633e0ee864b3306e578aba69f68caf"), looks := false }, kinds := [], alts := [], laidByText := true, laidKinds := [.data, .pinned], laidTests := true, laidLooks := .later }
def FairTextsCardSaid : Prop := Claim7.holds Tryd.pinned (.plain (OpenSpec.ofChange fairTextsSpec)) fairTextsCard

/-- THE SECOND FORM's CARD OF 'soughlaw43.RenderParses'. -/
def renderParsesUptoCard : Claim7 := { stood := { row := renderParsesUptoRow, standIns := [], harness := (true, "a8f3591521e7893e379ab30cd025deee45633e0ee864b3306e578aba69f68caf"), looks := false }, kinds := [], alts := [], laidByText := true, laidKinds := [.data, .pinned], laidTests := true, laidLooks := .later }
def RenderParsesUptoCardSaid : Prop := Claim7.holds Tryd.pinned (.plain (OpenSpec.upto renderParsesSpec)) renderParsesUptoCard

/-- THE SECOND FORM's CARD OF 'soughlaw43.RenderBack'. -/
def renderBackUptoCard : Claim7 := { stood := { row := renderBackUptoRow, standIns := [], harness := (true, "a8f3591521e7893e379ab30cd025deee45633e0ee864b3306e578aba69f68caf"), looks := false }, kinds := [], alts := [], laidByText := true, laidKinds := [.data, .pinned], laidTests := true, laidLooks := .later }
def RenderBackUptoCardSaid : Prop := Claim7.holds Tryd.pinned (.plain (OpenSpec.upto renderBackSpec)) renderBackUptoCard

/-- THE SECOND FORM's CARD OF 'soughlaw26.FairTexts'. -/
def fairTextsUptoCard : Claim7 := { stood := { row := fairTextsUptoRow, standIns := [], harness := (true, "a8f3591521e7893e379ab30cd025deee45633e0ee864b3306e578aba69f68caf"), looks := false }, kinds := [], alts := [], laidByText := true, laidKinds := [.data, .pinned], laidTests := true, laidLooks := .later }
def FairTextsUptoCardSaid : Prop := Claim7.holds Tryd.pinned (.plain (OpenSpec.upto fairTextsSpec)) fairTextsUptoCard
end Rows
end Go.Proofs.YtheokcjommfopaaDoor
