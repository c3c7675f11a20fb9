/-
  DERIVED. GIVEN WITH THE SEED: THE CARDS: each row of YtkefeinbjbeidaaGreatDoorRows.lean that lists a variable, with what it lists TIED to the program's text (the seventh form; the later family's looks); each row that meets fmt, with fmt's text TOLD by the authors' own Lean function (tested against real Go, not proved from fmt's source: count such statements apart). THE CARD IS WHAT COUNTS. Prove the row's statement (the work); the ties are given (YtkefeinbjbeidaaGreatDoorTie.lean); close each card by the builder's one call (the guide's Derived/Test/ToyasCard.lean, 'card_holds'). Laid BY PROGRAM, IN A SANDBOX (cutbox-door.mjs). By AI agents, Wed Nov 11 2026. No macro, syntax, notation, axiom, sorry.
-/
import Derived.Test.YtkefeinbjbeidaaGreatDoorRows
import GoSem.ClaimSeven
namespace Go.Proofs.YtkefeinbjbeidaaGreatDoor
namespace Rows

/-- THE TIED CARD OF 'geoproverlaw35.AreaGoals'. -/
def areaGoalsCard : Claim7 := { stood := { row := areaGoalsRow, standIns := [], harness := (true, "7738c84a34ca9506380b31a6443cfb6b44fa0bd82526229ca9de46cf1a8c79f6"), looks := false }, kinds := [], alts := [], laidByText := true, laidKinds := [.data, .data, .data], laidTests := true, laidLooks := .later }
def AreaGoalsCardSaid : Prop := Claim7.holds Tryz.pinned (.plain (OpenSpec.ofChange areaGoalsSpec)) areaGoalsCard

/-- THE TIED CARD OF 'geoproverlaw35.AreaTexts'. -/
def areaTextsCard : Claim7 := { stood := { row := areaTextsRow, standIns := [], harness := (true, "7738c84a34ca9506380b31a6443cfb6b44fa0bd82526229ca9de46cf1a8c79f6"), looks := false }, kinds := [], alts := [], laidByText := true, laidKinds := [.data, .data, .data], laidTests := true, laidLooks := .later }
def AreaTextsCardSaid : Prop := Claim7.holds Tryz.pinned (.plain (OpenSpec.ofChange areaTextsSpec)) areaTextsCard

/-- THE TIED CARD OF 'geoproverlaw35.AreaMeans'. -/
def areaMeansCard : Claim7 := { stood := { row := areaMeansRow, standIns := [], harness := (true, "7738c84a34ca9506380b31a6443cfb6b44fa0bd82526229ca9de46cf1a8c79f6"), looks := false }, kinds := [], alts := [], laidByText := true, laidKinds := [.data, .data, .data], laidTests := true, laidLooks := .later }
def AreaMeansCardSaid : Prop := Claim7.holds Tryz.pinned (.plain (OpenSpec.ofChange areaMeansSpec)) areaMeansCard

/-- THE SECOND FORM's CARD OF 'geoproverlaw35.AreaGoals'. -/
def areaGoalsUptoCard : Claim7 := { stood := { row := areaGoalsUptoRow, standIns := [], harness := (true, "7738c84a34ca9506380b31a6443cfb6b44fa0bd82526229ca9de46cf1a8c79f6"), looks := false }, kinds := [], alts := [], laidByText := true, laidKinds := [.data, .data, .data], laidTests := true, laidLooks := .later }
def AreaGoalsUptoCardSaid : Prop := Claim7.holds Tryz.pinned (.plain (OpenSpec.upto areaGoalsSpec)) areaGoalsUptoCard

/-- THE SECOND FORM's CARD OF 'geoproverlaw35.AreaTexts'. -/
def areaTextsUptoCard : Claim7 := { stood := { row := areaTextsUptoRow, standIns := [], harness := (true, "7738c84a34ca9506380b31a6443cfb6b44fa0bd82526229ca9de46cf1a8c79f6"), looks := false }, kinds := [], alts := [], laidByText := true, laidKinds := [.data, .data, .data], laidTests := true, laidLooks := .later }
def AreaTextsUptoCardSaid : Prop := Claim7.holds Tryz.pinned (.plain (OpenSpec.upto areaTextsSpec)) areaTextsUptoCard

/-- THE SECOND FORM's CARD OF 'geoproverlaw35.AreaMeans'. -/
def areaMeansUptoCard : Claim7 := { stood := { row := areaMeansUptoRow, standIns := [], harness := (true, "7738c84a34ca9506380b31a6443cfb6b44fa0bd82526229ca9de46cf1a8c79f6"), looks := false }, kinds := [], alts := [], laidByText := true, laidKinds := [.data, .data, .data], laidTests := true, laidLooks := .later }
def AreaMeansUptoCardSaid : Prop := Claim7.holds Tryz.pinned (.plain (OpenSpec.upto areaMeansSpec)) areaMeansUptoCard
end Rows
end Go.Proofs.YtkefeinbjbeidaaGreatDoor
