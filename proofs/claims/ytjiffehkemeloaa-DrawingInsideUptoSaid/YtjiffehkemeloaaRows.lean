/-
  No cell of these rows narrows 'for every input' (looked for: loops, veiled, ifaces, maps, wideKeys, modest, calm, conditions, laid).
  DERIVED. THE GIVEN ROWS OF THIS SEAT. 2 by the template 'for every input the law returns true; each argument reads behind the call as it read before'; 0 by the template 'total and deterministic' (their statements: YtjiffehkemeloaaTotals.lean).
  GIVEN WITH THE SEED: the statements are not yours to turn. If you find one false, say at which input.
  Laid BY PROGRAM, IN A SANDBOX (cutbox-rows.mjs): the forced cells as the released guide's own fill.sh prints them over the translation 28a189fc23cae345… (all of the seat's roots in one cut). By AI agents, Wed Nov 11 2026. No macro, syntax, notation, axiom, sorry.
-/
import Derived.Test.YtjiffehkemeloaaChecked
import GoSem.Claim
import GoSem.ClaimJoined
import GoSem.ClaimMapViews
import Derived.JoinedTies
import Derived.KernelRfl
namespace Go.Proofs.Ytjiffehkemeloaa
/- THE CELL 'sum', in the pinned program and in every row, IS THE sha256 OF THE DUMP (.gsa) THAT YtjiffehkemeloaaProg.lean LOADS. Nothing in Lean hashes anything: it is a label: what it is worth is what the hold of that sum in a sandbox is worth. -/
noncomputable def Try.pinned : Pinned := { name := "ytjiffehkemeloaa", sum := "28a189fc23cae345dc119c29d6abf45c7191f26f60c47766f1b284c06469a849", checked := Try.checked }
namespace Rows
def none {H : Type} : Left H := { results := [], args := [] }

/-- 'geoproverlaw45.DrawingScales': WHATEVER THE INPUT: true; the input reads as it did. -/
def drawingScalesSpec : ChangeSpec := { name := "drawingScales", fn := fun _ => fun
  | [d1, d2, d3] => { results := [.lit (.bool true)], args := [d1, d2, d3] }
  | _ => none }
def drawingScalesRow : OpenClaim := { program := "ytjiffehkemeloaa", sum := "28a189fc23cae345dc119c29d6abf45c7191f26f60c47766f1b284c06469a849", func := "geoprover/geoproverlaw45.DrawingScales", spec := "drawingScales", unfollowed := true, recurses := true, apart := false }
def DrawingScalesSaid : Prop := drawingScalesRow.holds Try.pinned (OpenSpec.ofChange drawingScalesSpec)

/-- ITS FALSE NEIGHBOUR: 'it returns false'. Refute it at one input. -/
def drawingScalesWrong : ChangeSpec := { name := "drawingScales", fn := fun _ => fun
  | [d1, d2, d3] => { results := [.lit (.bool false)], args := [d1, d2, d3] }
  | _ => none }
def DrawingScalesWrongFalsely : Prop := drawingScalesRow.holds Try.pinned (OpenSpec.ofChange drawingScalesWrong)

/-- 'geoproverlaw45.DrawingInside': WHATEVER THE INPUT: true; the input reads as it did. -/
def drawingInsideSpec : ChangeSpec := { name := "drawingInside", fn := fun _ => fun
  | [d1, d2, d3] => { results := [.lit (.bool true)], args := [d1, d2, d3] }
  | _ => none }
def drawingInsideRow : OpenClaim := { program := "ytjiffehkemeloaa", sum := "28a189fc23cae345dc119c29d6abf45c7191f26f60c47766f1b284c06469a849", func := "geoprover/geoproverlaw45.DrawingInside", spec := "drawingInside", unfollowed := true, recurses := true, apart := false }
def DrawingInsideSaid : Prop := drawingInsideRow.holds Try.pinned (OpenSpec.ofChange drawingInsideSpec)

/-- ITS FALSE NEIGHBOUR: 'it returns false'. Refute it at one input. -/
def drawingInsideWrong : ChangeSpec := { name := "drawingInside", fn := fun _ => fun
  | [d1, d2, d3] => { results := [.lit (.bool false)], args := [d1, d2, d3] }
  | _ => none }
def DrawingInsideWrongFalsely : Prop := drawingInsideRow.holds Try.pinned (OpenSpec.ofChange drawingInsideWrong)

/- THE SECOND FORM. 'bulk': how many values and letters a reading holds, each counted each time it is reached (what is shared counts as often as it is met; a slice's spare places count too). A statement '..UptoSaid' is the law's where the arguments, and the package variables that the reading takes, are together of bulk at most 1048576: NARROWER than '..Said'. Prove '..Said' where nothing that the law and all that it calls make is longer than what came in: it says more and counts as full. Else prove '..UptoSaid'. A law counts once. -/
mutual
def uptoBulk {H : Type} : DataW H → Nat
  | .lit (.string bytes) => bytes.length + 1
  | .lit _ => 1
  | .nil => 1
  | .ptr d => uptoBulk d + 1
  | .slice elems spare => uptoBulkAll elems + uptoBulkAll spare + 1
  | .agg parts => uptoBulkAll parts + 1
  | .iface _ d => uptoBulk d + 1
  | .map entries => uptoBulkEntries entries + 1
  | .held _ => 1
def uptoBulkAll {H : Type} : List (DataW H) → Nat
  | [] => 0
  | d :: r => uptoBulk d + uptoBulkAll r
def uptoBulkEntries {H : Type} : List (Lit × DataW H) → Nat
  | [] => 0
  | x :: r => uptoBulkEntry x + uptoBulkEntries r
def uptoBulkEntry {H : Type} : Lit × DataW H → Nat
  | (.string bytes, d) => bytes.length + uptoBulk d + 1
  | (_, d) => uptoBulk d + 1
 end
def uptoSmall : (H : Type) → List (DataW H) → Bool := fun _ ds => decide (uptoBulkAll ds ≤ 1048576)
def OpenSpec.upto (s : _root_.Go.ChangeSpec) : _root_.Go.OpenSpec := { _root_.Go.OpenSpec.ofChange s with cond := some uptoSmall }

/-- 'geoproverlaw45.DrawingScales', WHERE WHAT IT READS IS OF BULK AT MOST 1048576: true; the input reads as it did. -/
def drawingScalesUptoRow : OpenClaim := { program := "ytjiffehkemeloaa", sum := "28a189fc23cae345dc119c29d6abf45c7191f26f60c47766f1b284c06469a849", func := "geoprover/geoproverlaw45.DrawingScales", spec := "drawingScales", unfollowed := true, recurses := true, apart := false, narrowed := true }
def DrawingScalesUptoSaid : Prop := drawingScalesUptoRow.holds Try.pinned (OpenSpec.upto drawingScalesSpec)

/-- 'geoproverlaw45.DrawingInside', WHERE WHAT IT READS IS OF BULK AT MOST 1048576: true; the input reads as it did. -/
def drawingInsideUptoRow : OpenClaim := { program := "ytjiffehkemeloaa", sum := "28a189fc23cae345dc119c29d6abf45c7191f26f60c47766f1b284c06469a849", func := "geoprover/geoproverlaw45.DrawingInside", spec := "drawingInside", unfollowed := true, recurses := true, apart := false, narrowed := true }
def DrawingInsideUptoSaid : Prop := drawingInsideUptoRow.holds Try.pinned (OpenSpec.upto drawingInsideSpec)

end Rows
end Go.Proofs.Ytjiffehkemeloaa
