/-
  DERIVED. GIVEN WITH THE SEED: THE CARDS: each row of YtjgdomdhjphgbaaGreatDoorRows.lean that lists a variable, with what it lists TIED to the program's text (the seventh form; the later family's looks); each row that meets fmt, with fmt's text TOLD by the authors' own Lean function (tested against real Go, not proved from fmt's source: count such statements apart). THE CARD IS WHAT COUNTS. Prove the row's statement (the work); the ties are given (YtjgdomdhjphgbaaGreatDoorTie.lean); close each card by the builder's one call (the guide's Derived/Test/ToyasCard.lean, 'card_holds'). Laid BY PROGRAM, IN A SANDBOX (cutbox-door.mjs). By AI agents, Wed Nov 11 2026. No macro, syntax, notation, axiom, sorry.
-/
import Derived.Test.YtjgdomdhjphgbaaGreatDoorRows
import GoSem.ClaimSeven
namespace Go.Proofs.YtjgdomdhjphgbaaGreatDoor
namespace Rows

/-- THE TIED CARD OF 'geoproverlaw34.EliminationLemmas'. -/
def eliminationLemmasCard : Claim7 := { stood := { row := eliminationLemmasRow, standIns := [], harness := (true, "ff6caf82313f9071cfc8476feb9d4eeaffc40f5685d8495638e3bd8750b8b502"), looks := false }, kinds := [], alts := [], laidByText := true, laidKinds := [.data, .data, .data], laidTests := true, laidLooks := .later }
def EliminationLemmasCardSaid : Prop := Claim7.holds Tryz.pinned (.plain (OpenSpec.ofChange eliminationLemmasSpec)) eliminationLemmasCard

/-- THE TIED CARD OF 'geoproverlaw34.EliminationWeights'. -/
def eliminationWeightsCard : Claim7 := { stood := { row := eliminationWeightsRow, standIns := [], harness := (true, "ff6caf82313f9071cfc8476feb9d4eeaffc40f5685d8495638e3bd8750b8b502"), looks := false }, kinds := [], alts := [], laidByText := true, laidKinds := [.data, .data, .data], laidTests := true, laidLooks := .later }
def EliminationWeightsCardSaid : Prop := Claim7.holds Tryz.pinned (.plain (OpenSpec.ofChange eliminationWeightsSpec)) eliminationWeightsCard

/-- THE SECOND FORM's CARD OF 'geoproverlaw34.EliminationLemmas'. -/
def eliminationLemmasUptoCard : Claim7 := { stood := { row := eliminationLemmasUptoRow, standIns := [], harness := (true, "ff6caf82313f9071cfc8476feb9d4eeaffc40f5685d8495638e3bd8750b8b502"), looks := false }, kinds := [], alts := [], laidByText := true, laidKinds := [.data, .data, .data], laidTests := true, laidLooks := .later }
def EliminationLemmasUptoCardSaid : Prop := Claim7.holds Tryz.pinned (.plain (OpenSpec.upto eliminationLemmasSpec)) eliminationLemmasUptoCard

/-- THE SECOND FORM's CARD OF 'geoproverlaw34.EliminationWeights'. -/
def eliminationWeightsUptoCard : Claim7 := { stood := { row := eliminationWeightsUptoRow, standIns := [], harness := (true, "ff6caf82313f9071cfc8476feb9d4eeaffc40f5685d8495638e3bd8750b8b502"), looks := false }, kinds := [], alts := [], laidByText := true, laidKinds := [.data, .data, .data], laidTests := true, laidLooks := .later }
def EliminationWeightsUptoCardSaid : Prop := Claim7.holds Tryz.pinned (.plain (OpenSpec.upto eliminationWeightsSpec)) eliminationWeightsUptoCard
end Rows
end Go.Proofs.YtjgdomdhjphgbaaGreatDoor
