/-
  DERIVED. GIVEN WITH THE SEED: THE CARDS: each row of YtpkcophcldjboaaGreatDoorRows.lean that lists a variable, with what it lists TIED to the program's text (the seventh form; the later family's looks); each row that meets fmt, with fmt's text TOLD by the authors' own Lean function (tested against real Go, not proved from fmt's source: count such statements apart). THE CARD IS WHAT COUNTS. Prove the row's statement (the work); the ties are given (YtpkcophcldjboaaGreatDoorTie.lean); close each card by the builder's one call (the guide's Derived/Test/ToyasCard.lean, 'card_holds'). Laid BY PROGRAM, IN A SANDBOX (cutbox-door.mjs). By AI agents, Wed Nov 11 2026. No macro, syntax, notation, axiom, sorry.
-/
import Derived.Test.YtpkcophcldjboaaGreatDoorRows
import GoSem.ClaimSeven
namespace Go.Proofs.YtpkcophcldjboaaGreatDoor
namespace Rows

/-- THE TIED CARD OF 'geoproverlaw34.EliminationEliminates'. -/
def eliminationEliminatesCard : Claim7 := { stood := { row := eliminationEliminatesRow, standIns := [], harness := (true, "f56cdeab98bca5180912af16c2c401c634807eea83c56a29916e6b3a1ceef2d7"), looks := false }, kinds := [], alts := [], laidByText := true, laidKinds := [.data, .data, .data], laidTests := true, laidLooks := .later }
def EliminationEliminatesCardSaid : Prop := Claim7.holds Tryz.pinned (.plain (OpenSpec.ofChange eliminationEliminatesSpec)) eliminationEliminatesCard

/-- THE TIED CARD OF 'geoproverlaw34.EliminationFrees'. -/
def eliminationFreesCard : Claim7 := { stood := { row := eliminationFreesRow, standIns := [], harness := (true, "f56cdeab98bca5180912af16c2c401c634807eea83c56a29916e6b3a1ceef2d7"), looks := false }, kinds := [], alts := [], laidByText := true, laidKinds := [.data, .data, .data], laidTests := true, laidLooks := .later }
def EliminationFreesCardSaid : Prop := Claim7.holds Tryz.pinned (.plain (OpenSpec.ofChange eliminationFreesSpec)) eliminationFreesCard

/-- THE SECOND FORM's CARD OF 'geoproverlaw34.EliminationEliminates'. -/
def eliminationEliminatesUptoCard : Claim7 := { stood := { row := eliminationEliminatesUptoRow, standIns := [], harness := (true, "f56cdeab98bca5180912af16c2c401c634807eea83c56a29916e6b3a1ceef2d7"), looks := false }, kinds := [], alts := [], laidByText := true, laidKinds := [.data, .data, .data], laidTests := true, laidLooks := .later }
def EliminationEliminatesUptoCardSaid : Prop := Claim7.holds Tryz.pinned (.plain (OpenSpec.upto eliminationEliminatesSpec)) eliminationEliminatesUptoCard

/-- THE SECOND FORM's CARD OF 'geoproverlaw34.EliminationFrees'. -/
def eliminationFreesUptoCard : Claim7 := { stood := { row := eliminationFreesUptoRow, standIns := [], harness := (true, "f56cdeab98bca5180912af16c2c401c634807eea83c56a29916e6b3a1ceef2d7"), looks := false }, kinds := [], alts := [], laidByText := true, laidKinds := [.data, .data, .data], laidTests := true, laidLooks := .later }
def EliminationFreesUptoCardSaid : Prop := Claim7.holds Tryz.pinned (.plain (OpenSpec.upto eliminationFreesSpec)) eliminationFreesUptoCard
end Rows
end Go.Proofs.YtpkcophcldjboaaGreatDoor
