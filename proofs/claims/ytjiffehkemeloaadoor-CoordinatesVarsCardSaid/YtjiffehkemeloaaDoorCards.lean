/-
  DERIVED. GIVEN WITH THE SEED: THE CARDS: each row of YtjiffehkemeloaaDoorRows.lean that lists a variable, with what it lists TIED to the program's text (the seventh form; the later family's looks); each row that meets fmt, with fmt's text TOLD by the authors' own Lean function (tested against real Go, not proved from fmt's source: count such statements apart). THE CARD IS WHAT COUNTS. Prove the row's statement (the work); the ties are given (YtjiffehkemeloaaDoorTie.lean); close each card by the builder's one call (the guide's Derived/Test/ToyasCard.lean, 'card_holds'). Laid BY PROGRAM, IN A SANDBOX (cutbox-door.mjs). By AI agents, Wed Nov 11 2026. No macro, syntax, notation, axiom, sorry.
-/
import Derived.Test.YtjiffehkemeloaaDoorRows
import GoSem.ClaimSeven
namespace Go.Proofs.YtjiffehkemeloaaDoor
namespace Rows

/-- THE TIED CARD OF 'geoproverlaw21.CoordinatesVars'. -/
def coordinatesVarsCard : Claim7 := { stood := { row := coordinatesVarsRow, standIns := [], harness := (true, "996b8b21f694992da929920b6a79634874b4955e894750f238325983cf761e30"), looks := false }, kinds := [], alts := [], laidByText := true, laidKinds := [.data, .data, .data], laidTests := true, laidLooks := .later }
def CoordinatesVarsCardSaid : Prop := Claim7.holds Tryd.pinned (.plain (OpenSpec.ofChange coordinatesVarsSpec)) coordinatesVarsCard

/-- THE TIED CARD OF 'geoproverlaw32.QuantityTexts'. -/
def quantityTextsCard : Claim7 := { stood := { row := quantityTextsRow, standIns := [], harness := (true, "996b8b21f694992da929920b6a79634874b4955e894750f238325983cf761e30"), looks := false }, kinds := [], alts := [], laidByText := true, laidKinds := [.data, .data, .data], laidTests := true, laidLooks := .later }
def QuantityTextsCardSaid : Prop := Claim7.holds Tryd.pinned (.plain (OpenSpec.ofChange quantityTextsSpec)) quantityTextsCard

/-- THE TIED CARD OF 'geoproverlaw32.QuantityNorms'. -/
def quantityNormsCard : Claim7 := { stood := { row := quantityNormsRow, standIns := [], harness := (true, "996b8b21f694992da929920b6a79634874b4955e894750f238325983cf761e30"), looks := false }, kinds := [], alts := [], laidByText := true, laidKinds := [.data, .data, .data], laidTests := true, laidLooks := .later }
def QuantityNormsCardSaid : Prop := Claim7.holds Tryd.pinned (.plain (OpenSpec.ofChange quantityNormsSpec)) quantityNormsCard

/-- THE TIED CARD OF 'geoproverlaw32.QuantityCompares'. -/
def quantityComparesCard : Claim7 := { stood := { row := quantityComparesRow, standIns := [], harness := (true, "996b8b21f694992da929920b6a79634874b4955e894750f238325983cf761e30"), looks := false }, kinds := [], alts := [], laidByText := true, laidKinds := [.data, .data, .data], laidTests := true, laidLooks := .later }
def QuantityComparesCardSaid : Prop := Claim7.holds Tryd.pinned (.plain (OpenSpec.ofChange quantityComparesSpec)) quantityComparesCard

/-- THE SECOND FORM's CARD OF 'geoproverlaw21.CoordinatesVars'. -/
def coordinatesVarsUptoCard : Claim7 := { stood := { row := coordinatesVarsUptoRow, standIns := [], harness := (true, "996b8b21f694992da929920b6a79634874b4955e894750f238325983cf761e30"), looks := false }, kinds := [], alts := [], laidByText := true, laidKinds := [.data, .data, .data], laidTests := true, laidLooks := .later }
def CoordinatesVarsUptoCardSaid : Prop := Claim7.holds Tryd.pinned (.plain (OpenSpec.upto coordinatesVarsSpec)) coordinatesVarsUptoCard

/-- THE SECOND FORM's CARD OF 'geoproverlaw32.QuantityTexts'. -/
def quantityTextsUptoCard : Claim7 := { stood := { row := quantityTextsUptoRow, standIns := [], harness := (true, "996b8b21f694992da929920b6a79634874b4955e894750f238325983cf761e30"), looks := false }, kinds := [], alts := [], laidByText := true, laidKinds := [.data, .data, .data], laidTests := true, laidLooks := .later }
def QuantityTextsUptoCardSaid : Prop := Claim7.holds Tryd.pinned (.plain (OpenSpec.upto quantityTextsSpec)) quantityTextsUptoCard

/-- THE SECOND FORM's CARD OF 'geoproverlaw32.QuantityNorms'. -/
def quantityNormsUptoCard : Claim7 := { stood := { row := quantityNormsUptoRow, standIns := [], harness := (true, "996b8b21f694992da929920b6a79634874b4955e894750f238325983cf761e30"), looks := false }, kinds := [], alts := [], laidByText := true, laidKinds := [.data, .data, .data], laidTests := true, laidLooks := .later }
def QuantityNormsUptoCardSaid : Prop := Claim7.holds Tryd.pinned (.plain (OpenSpec.upto quantityNormsSpec)) quantityNormsUptoCard

/-- THE SECOND FORM's CARD OF 'geoproverlaw32.QuantityCompares'. -/
def quantityComparesUptoCard : Claim7 := { stood := { row := quantityComparesUptoRow, standIns := [], harness := (true, "996b8b21f694992da929920b6a79634874b4955e894750f238325983cf761e30"), looks := false }, kinds := [], alts := [], laidByText := true, laidKinds := [.data, .data, .data], laidTests := true, laidLooks := .later }
def QuantityComparesUptoCardSaid : Prop := Claim7.holds Tryd.pinned (.plain (OpenSpec.upto quantityComparesSpec)) quantityComparesUptoCard
end Rows
end Go.Proofs.YtjiffehkemeloaaDoor
