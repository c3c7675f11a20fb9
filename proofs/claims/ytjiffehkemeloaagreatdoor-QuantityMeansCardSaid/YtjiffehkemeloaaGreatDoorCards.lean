/-
  DERIVED. GIVEN WITH THE SEED: THE CARDS: each row of YtjiffehkemeloaaGreatDoorRows.lean that lists a variable, with what it lists TIED to the program's text (the seventh form; the later family's looks); each row that meets fmt, with fmt's text TOLD by the authors' own Lean function (tested against real Go, not proved from fmt's source: count such statements apart). THE CARD IS WHAT COUNTS. Prove the row's statement (the work); the ties are given (YtjiffehkemeloaaGreatDoorTie.lean); close each card by the builder's one call (the guide's Derived/Test/ToyasCard.lean, 'card_holds'). Laid BY PROGRAM, IN A SANDBOX (cutbox-door.mjs). By AI agents, Wed Nov 11 2026. No macro, syntax, notation, axiom, sorry.
-/
import Derived.Test.YtjiffehkemeloaaGreatDoorRows
import GoSem.ClaimSeven
namespace Go.Proofs.YtjiffehkemeloaaGreatDoor
namespace Rows

/-- THE TIED CARD OF 'geoproverlaw32.QuantityValues'. -/
def quantityValuesCard : Claim7 := { stood := { row := quantityValuesRow, standIns := [], harness := (true, "a39c1881488b1d3ea099f7f1e0a716f8959db0ddd8a5c61be1715e5d3e737236"), looks := false }, kinds := [], alts := [], laidByText := true, laidKinds := [.data, .data, .data], laidTests := true, laidLooks := .later }
def QuantityValuesCardSaid : Prop := Claim7.holds Tryz.pinned (.plain (OpenSpec.ofChange quantityValuesSpec)) quantityValuesCard

/-- THE TIED CARD OF 'geoproverlaw32.QuantityMeans'. -/
def quantityMeansCard : Claim7 := { stood := { row := quantityMeansRow, standIns := [], harness := (true, "a39c1881488b1d3ea099f7f1e0a716f8959db0ddd8a5c61be1715e5d3e737236"), looks := false }, kinds := [], alts := [], laidByText := true, laidKinds := [.data, .data, .data], laidTests := true, laidLooks := .later }
def QuantityMeansCardSaid : Prop := Claim7.holds Tryz.pinned (.plain (OpenSpec.ofChange quantityMeansSpec)) quantityMeansCard

/-- THE SECOND FORM's CARD OF 'geoproverlaw32.QuantityValues'. -/
def quantityValuesUptoCard : Claim7 := { stood := { row := quantityValuesUptoRow, standIns := [], harness := (true, "a39c1881488b1d3ea099f7f1e0a716f8959db0ddd8a5c61be1715e5d3e737236"), looks := false }, kinds := [], alts := [], laidByText := true, laidKinds := [.data, .data, .data], laidTests := true, laidLooks := .later }
def QuantityValuesUptoCardSaid : Prop := Claim7.holds Tryz.pinned (.plain (OpenSpec.upto quantityValuesSpec)) quantityValuesUptoCard

/-- THE SECOND FORM's CARD OF 'geoproverlaw32.QuantityMeans'. -/
def quantityMeansUptoCard : Claim7 := { stood := { row := quantityMeansUptoRow, standIns := [], harness := (true, "a39c1881488b1d3ea099f7f1e0a716f8959db0ddd8a5c61be1715e5d3e737236"), looks := false }, kinds := [], alts := [], laidByText := true, laidKinds := [.data, .data, .data], laidTests := true, laidLooks := .later }
def QuantityMeansUptoCardSaid : Prop := Claim7.holds Tryz.pinned (.plain (OpenSpec.upto quantityMeansSpec)) quantityMeansUptoCard
end Rows
end Go.Proofs.YtjiffehkemeloaaGreatDoor
