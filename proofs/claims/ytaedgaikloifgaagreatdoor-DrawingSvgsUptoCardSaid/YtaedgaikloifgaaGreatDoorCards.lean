/-
  DERIVED. GIVEN WITH THE SEED: THE CARDS: each row of YtaedgaikloifgaaGreatDoorRows.lean that lists a variable, with what it lists TIED to the program's text (the seventh form; the later family's looks); each row that meets fmt, with fmt's text TOLD by the authors' own Lean function (tested against real Go, not proved from fmt's source: count such statements apart). THE CARD IS WHAT COUNTS. Prove the row's statement (the work); the ties are given (YtaedgaikloifgaaGreatDoorTie.lean); close each card by the builder's one call (the guide's Derived/Test/ToyasCard.lean, 'card_holds'). Laid BY PROGRAM, IN A SANDBOX (cutbox-door.mjs). By AI agents, Wed Nov 11 2026. No macro, syntax, notation, axiom, sorry.
-/
import Derived.Test.YtaedgaikloifgaaGreatDoorRows
import GoSem.ClaimSeven
namespace Go.Proofs.YtaedgaikloifgaaGreatDoor
namespace Rows

/-- THE TIED CARD OF 'geoproverlaw45.DrawingSvgs'. -/
def drawingSvgsCard : Claim7 := { stood := { row := drawingSvgsRow, standIns := [], harness := (true, "99d89d84c3fc02c2086d165fea21605271e5e6b5756e4591ab02e38aa49105a5"), looks := false }, kinds := [], alts := [], laidByText := true, laidKinds := [.data, .data, .data], laidTests := true, laidLooks := .later }
def DrawingSvgsCardSaid : Prop := Claim7.holds Tryz.pinned (.plain (OpenSpec.ofChange drawingSvgsSpec)) drawingSvgsCard

/-- THE SECOND FORM's CARD OF 'geoproverlaw45.DrawingSvgs'. -/
def drawingSvgsUptoCard : Claim7 := { stood := { row := drawingSvgsUptoRow, standIns := [], harness := (true, "99d89d84c3fc02c2086d165fea21605271e5e6b5756e4591ab02e38aa49105a5"), looks := false }, kinds := [], alts := [], laidByText := true, laidKinds := [.data, .data, .data], laidTests := true, laidLooks := .later }
def DrawingSvgsUptoCardSaid : Prop := Claim7.holds Tryz.pinned (.plain (OpenSpec.upto drawingSvgsSpec)) drawingSvgsUptoCard
end Rows
end Go.Proofs.YtaedgaikloifgaaGreatDoor
