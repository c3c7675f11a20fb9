/-
  DERIVED. GIVEN WITH THE SEED: THE CARDS: each row of YtjekhacnoopdpaaGreatDoorRows.lean that lists a variable, with what it lists TIED to the program's text (the seventh form; the later family's looks); each row that meets fmt, with fmt's text TOLD by the authors' own Lean function (tested against real Go, not proved from fmt's source: count such statements apart). THE CARD IS WHAT COUNTS. Prove the row's statement (the work); the ties are given (YtjekhacnoopdpaaGreatDoorTie.lean); close each card by the builder's one call (the guide's Derived/Test/ToyasCard.lean, 'card_holds'). Laid BY PROGRAM, IN A SANDBOX (cutbox-door.mjs). By AI agents, Wed Nov 11 2026. No macro, syntax, notation, axiom, sorry.
-/
import Derived.Test.YtjekhacnoopdpaaGreatDoorRows
import GoSem.ClaimSeven
namespace Go.Proofs.YtjekhacnoopdpaaGreatDoor
namespace Rows

/-- THE TIED CARD OF 'geoproverlaw33.ExpressionReplaces'. -/
def expressionReplacesCard : Claim7 := { stood := { row := expressionReplacesRow, standIns := [], harness := (true, "ceddbd9099752c71a0952f79dcafd5a535c8f52d39da6a37ec27e01922de9ab0"), looks := false }, kinds := [], alts := [], laidByText := true, laidKinds := [.data, .data, .data], laidTests := true, laidLooks := .later }
def ExpressionReplacesCardSaid : Prop := Claim7.holds Tryz.pinned (.plain (OpenSpec.ofChange expressionReplacesSpec)) expressionReplacesCard

/-- THE TIED CARD OF 'geoproverlaw33.ExpressionTexts'. -/
def expressionTextsCard : Claim7 := { stood := { row := expressionTextsRow, standIns := [], harness := (true, "ceddbd9099752c71a0952f79dcafd5a535c8f52d39da6a37ec27e01922de9ab0"), looks := false }, kinds := [], alts := [], laidByText := true, laidKinds := [.data, .data, .data], laidTests := true, laidLooks := .later }
def ExpressionTextsCardSaid : Prop := Claim7.holds Tryz.pinned (.plain (OpenSpec.ofChange expressionTextsSpec)) expressionTextsCard

/-- THE TIED CARD OF 'geoproverlaw33.ExpressionNorms'. -/
def expressionNormsCard : Claim7 := { stood := { row := expressionNormsRow, standIns := [], harness := (true, "ceddbd9099752c71a0952f79dcafd5a535c8f52d39da6a37ec27e01922de9ab0"), looks := false }, kinds := [], alts := [], laidByText := true, laidKinds := [.data, .data, .data], laidTests := true, laidLooks := .later }
def ExpressionNormsCardSaid : Prop := Claim7.holds Tryz.pinned (.plain (OpenSpec.ofChange expressionNormsSpec)) expressionNormsCard

/-- THE TIED CARD OF 'geoproverlaw33.ExpressionValues'. -/
def expressionValuesCard : Claim7 := { stood := { row := expressionValuesRow, standIns := [], harness := (true, "ceddbd9099752c71a0952f79dcafd5a535c8f52d39da6a37ec27e01922de9ab0"), looks := false }, kinds := [], alts := [], laidByText := true, laidKinds := [.data, .data, .data], laidTests := true, laidLooks := .later }
def ExpressionValuesCardSaid : Prop := Claim7.holds Tryz.pinned (.plain (OpenSpec.ofChange expressionValuesSpec)) expressionValuesCard

/-- THE TIED CARD OF 'geoproverlaw33.ExpressionMeans'. -/
def expressionMeansCard : Claim7 := { stood := { row := expressionMeansRow, standIns := [], harness := (true, "ceddbd9099752c71a0952f79dcafd5a535c8f52d39da6a37ec27e01922de9ab0"), looks := false }, kinds := [], alts := [], laidByText := true, laidKinds := [.data, .data, .data], laidTests := true, laidLooks := .later }
def ExpressionMeansCardSaid : Prop := Claim7.holds Tryz.pinned (.plain (OpenSpec.ofChange expressionMeansSpec)) expressionMeansCard

/-- THE TIED CARD OF 'geoproverlaw33.ExpressionRing'. -/
def expressionRingCard : Claim7 := { stood := { row := expressionRingRow, standIns := [], harness := (true, "ceddbd9099752c71a0952f79dcafd5a535c8f52d39da6a37ec27e01922de9ab0"), looks := false }, kinds := [], alts := [], laidByText := true, laidKinds := [.data, .data, .data], laidTests := true, laidLooks := .later }
def ExpressionRingCardSaid : Prop := Claim7.holds Tryz.pinned (.plain (OpenSpec.ofChange expressionRingSpec)) expressionRingCard

/-- THE TIED CARD OF 'geoproverlaw33.ExpressionSums'. -/
def expressionSumsCard : Claim7 := { stood := { row := expressionSumsRow, standIns := [], harness := (true, "ceddbd9099752c71a0952f79dcafd5a535c8f52d39da6a37ec27e01922de9ab0"), looks := false }, kinds := [], alts := [], laidByText := true, laidKinds := [.data, .data, .data], laidTests := true, laidLooks := .later }
def ExpressionSumsCardSaid : Prop := Claim7.holds Tryz.pinned (.plain (OpenSpec.ofChange expressionSumsSpec)) expressionSumsCard

/-- THE TIED CARD OF 'geoproverlaw33.ExpressionPolys'. -/
def expressionPolysCard : Claim7 := { stood := { row := expressionPolysRow, standIns := [], harness := (true, "ceddbd9099752c71a0952f79dcafd5a535c8f52d39da6a37ec27e01922de9ab0"), looks := false }, kinds := [], alts := [], laidByText := true, laidKinds := [.data, .data, .data], laidTests := true, laidLooks := .later }
def ExpressionPolysCardSaid : Prop := Claim7.holds Tryz.pinned (.plain (OpenSpec.ofChange expressionPolysSpec)) expressionPolysCard

/-- THE SECOND FORM's CARD OF 'geoproverlaw33.ExpressionReplaces'. -/
def expressionReplacesUptoCard : Claim7 := { stood := { row := expressionReplacesUptoRow, standIns := [], harness := (true, "ceddbd9099752c71a0952f79dcafd5a535c8f52d39da6a37ec27e01922de9ab0"), looks := false }, kinds := [], alts := [], laidByText := true, laidKinds := [.data, .data, .data], laidTests := true, laidLooks := .later }
def ExpressionReplacesUptoCardSaid : Prop := Claim7.holds Tryz.pinned (.plain (OpenSpec.upto expressionReplacesSpec)) expressionReplacesUptoCard

/-- THE SECOND FORM's CARD OF 'geoproverlaw33.ExpressionTexts'. -/
def expressionTextsUptoCard : Claim7 := { stood := { row := expressionTextsUptoRow, standIns := [], harness := (true, "ceddbd9099752c71a0952f79dcafd5a535c8f52d39da6a37ec27e01922de9ab0"), looks := false }, kinds := [], alts := [], laidByText := true, laidKinds := [.data, .data, .data], laidTests := true, laidLooks := .later }
def ExpressionTextsUptoCardSaid : Prop := Claim7.holds Tryz.pinned (.plain (OpenSpec.upto expressionTextsSpec)) expressionTextsUptoCard

/-- THE SECOND FORM's CARD OF 'geoproverlaw33.ExpressionNorms'. -/
def expressionNormsUptoCard : Claim7 := { stood := { row := expressionNormsUptoRow, standIns := [], harness := (true, "ceddbd9099752c71a0952f79dcafd5a535c8f52d39da6a37ec27e01922de9ab0"), looks := false }, kinds := [], alts := [], laidByText := true, laidKinds := [.data, .data, .data], laidTests := true, laidLooks := .later }
def ExpressionNormsUptoCardSaid : Prop := Claim7.holds Tryz.pinned (.plain (OpenSpec.upto expressionNormsSpec)) expressionNormsUptoCard

/-- THE SECOND FORM's CARD OF 'geoproverlaw33.ExpressionValues'. -/
def expressionValuesUptoCard : Claim7 := { stood := { row := expressionValuesUptoRow, standIns := [], harness := (true, "ceddbd9099752c71a0952f79dcafd5a535c8f52d39da6a37ec27e01922de9ab0"), looks := false }, kinds := [], alts := [], laidByText := true, laidKinds := [.data, .data, .data], laidTests := true, laidLooks := .later }
def ExpressionValuesUptoCardSaid : Prop := Claim7.holds Tryz.pinned (.plain (OpenSpec.upto expressionValuesSpec)) expressionValuesUptoCard

/-- THE SECOND FORM's CARD OF 'geoproverlaw33.ExpressionMeans'. -/
def expressionMeansUptoCard : Claim7 := { stood := { row := expressionMeansUptoRow, standIns := [], harness := (true, "ceddbd9099752c71a0952f79dcafd5a535c8f52d39da6a37ec27e01922de9ab0"), looks := false }, kinds := [], alts := [], laidByText := true, laidKinds := [.data, .data, .data], laidTests := true, laidLooks := .later }
def ExpressionMeansUptoCardSaid : Prop := Claim7.holds Tryz.pinned (.plain (OpenSpec.upto expressionMeansSpec)) expressionMeansUptoCard

/-- THE SECOND FORM's CARD OF 'geoproverlaw33.ExpressionRing'. -/
def expressionRingUptoCard : Claim7 := { stood := { row := expressionRingUptoRow, standIns := [], harness := (true, "ceddbd9099752c71a0952f79dcafd5a535c8f52d39da6a37ec27e01922de9ab0"), looks := false }, kinds := [], alts := [], laidByText := true, laidKinds := [.data, .data, .data], laidTests := true, laidLooks := .later }
def ExpressionRingUptoCardSaid : Prop := Claim7.holds Tryz.pinned (.plain (OpenSpec.upto expressionRingSpec)) expressionRingUptoCard

/-- THE SECOND FORM's CARD OF 'geoproverlaw33.ExpressionSums'. -/
def expressionSumsUptoCard : Claim7 := { stood := { row := expressionSumsUptoRow, standIns := [], harness := (true, "ceddbd9099752c71a0952f79dcafd5a535c8f52d39da6a37ec27e01922de9ab0"), looks := false }, kinds := [], alts := [], laidByText := true, laidKinds := [.data, .data, .data], laidTests := true, laidLooks := .later }
def ExpressionSumsUptoCardSaid : Prop := Claim7.holds Tryz.pinned (.plain (OpenSpec.upto expressionSumsSpec)) expressionSumsUptoCard

/-- THE SECOND FORM's CARD OF 'geoproverlaw33.ExpressionPolys'. -/
def expressionPolysUptoCard : Claim7 := { stood := { row := expressionPolysUptoRow, standIns := [], harness := (true, "ceddbd9099752c71a0952f79dcafd5a535c8f52d39da6a37ec27e01922de9ab0"), looks := false }, kinds := [], alts := [], laidByText := true, laidKinds := [.data, .data, .data], laidTests := true, laidLooks := .later }
def ExpressionPolysUptoCardSaid : Prop := Claim7.holds Tryz.pinned (.plain (OpenSpec.upto expressionPolysSpec)) expressionPolysUptoCard
end Rows
end Go.Proofs.YtjekhacnoopdpaaGreatDoor
