/-
  DERIVED. GIVEN WITH THE SEED: THE CARDS: each row of YteiopjkamgmfpaaGreatDoorRows.lean that lists a variable, with what it lists TIED to the program's text (the seventh form; the later family's looks); each row that meets fmt, with fmt's text TOLD by the authors' own Lean function (tested against real Go, not proved from fmt's source: count such statements apart). THE CARD IS WHAT COUNTS. Prove the row's statement (the work); the ties are given (YteiopjkamgmfpaaGreatDoorTie.lean); close each card by the builder's one call (the guide's Derived/Test/ToyasCard.lean, 'card_holds'). Laid BY PROGRAM, IN A SANDBOX (cutbox-door.mjs). By AI agents, Wed Nov 11 2026. No macro, syntax, notation, axiom, sorry.
-/
import Derived.Test.YteiopjkamgmfpaaGreatDoorRows
import GoSem.ClaimSeven
namespace Go.Proofs.YteiopjkamgmfpaaGreatDoor
namespace Rows

/-- THE TIED CARD OF 'geoproverlaw32.QuantityPolys'. -/
def quantityPolysCard : Claim7 := { stood := { row := quantityPolysRow, standIns := [], harness := (true, "8661b477876ef8c12a2b66d2e8289490b83b60e5a3e4c668f544318e06a8813f"), looks := false }, kinds := [], alts := [], laidByText := true, laidKinds := [.data, .data, .data], laidTests := true, laidLooks := .later }
def QuantityPolysCardSaid : Prop := Claim7.holds Tryz.pinned (.plain (OpenSpec.ofChange quantityPolysSpec)) quantityPolysCard

/-- THE TIED CARD OF 'geoproverlaw33.ExpressionNorms'. -/
def expressionNormsCard : Claim7 := { stood := { row := expressionNormsRow, standIns := [], harness := (true, "8661b477876ef8c12a2b66d2e8289490b83b60e5a3e4c668f544318e06a8813f"), looks := false }, kinds := [], alts := [], laidByText := true, laidKinds := [.data, .data, .data], laidTests := true, laidLooks := .later }
def ExpressionNormsCardSaid : Prop := Claim7.holds Tryz.pinned (.plain (OpenSpec.ofChange expressionNormsSpec)) expressionNormsCard

/-- THE SECOND FORM's CARD OF 'geoproverlaw32.QuantityPolys'. -/
def quantityPolysUptoCard : Claim7 := { stood := { row := quantityPolysUptoRow, standIns := [], harness := (true, "8661b477876ef8c12a2b66d2e8289490b83b60e5a3e4c668f544318e06a8813f"), looks := false }, kinds := [], alts := [], laidByText := true, laidKinds := [.data, .data, .data], laidTests := true, laidLooks := .later }
def QuantityPolysUptoCardSaid : Prop := Claim7.holds Tryz.pinned (.plain (OpenSpec.upto quantityPolysSpec)) quantityPolysUptoCard

/-- THE SECOND FORM's CARD OF 'geoproverlaw33.ExpressionNorms'. -/
def expressionNormsUptoCard : Claim7 := { stood := { row := expressionNormsUptoRow, standIns := [], harness := (true, "8661b477876ef8c12a2b66d2e8289490b83b60e5a3e4c668f544318e06a8813f"), looks := false }, kinds := [], alts := [], laidByText := true, laidKinds := [.data, .data, .data], laidTests := true, laidLooks := .later }
def ExpressionNormsUptoCardSaid : Prop := Claim7.holds Tryz.pinned (.plain (OpenSpec.upto expressionNormsSpec)) expressionNormsUptoCard
end Rows
end Go.Proofs.YteiopjkamgmfpaaGreatDoor
