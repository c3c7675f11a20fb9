/-
  No cell of these rows narrows 'for every input' (looked for: loops, veiled, ifaces, maps, wideKeys, modest, calm, conditions, laid).
  DERIVED. THE GIVEN ROWS OF THIS SEAT. 2 by the template 'for every input the law returns true; each argument reads behind the call as it read before'; 0 by the template 'total and deterministic' (their statements: YtjbjejmmnbdbiaaGreatTotals.lean).
  GIVEN WITH THE SEED: the statements are not yours to turn. If you find one false, say at which input.
  Laid BY PROGRAM, IN A SANDBOX (cutbox-rows.mjs): the forced cells as the released guide's own fill.sh prints them over the translation bad284649dd76eb0… (all of the seat's roots in one cut). By AI agents, Wed Nov 11 2026. No macro, syntax, notation, axiom, sorry.
-/
import Derived.Test.YtjbjejmmnbdbiaaGreatChecked
import GoSem.Claim
import GoSem.ClaimJoined
import GoSem.ClaimMapViews
import Derived.JoinedTies
import Derived.KernelRfl
namespace Go.Proofs.YtjbjejmmnbdbiaaGreat
/- THE CELL 'sum', in the pinned program and in every row, IS THE sha256 OF THE DUMP (.gsa) THAT YtjbjejmmnbdbiaaGreatProg.lean LOADS. Nothing in Lean hashes anything: it is a label: what it is worth is what the hold of that sum in a sandbox is worth. -/
noncomputable def Tryz.pinned : Pinned := { name := "ytjbjejmmnbdbiaagreat", sum := "bad284649dd76eb01db1bb64be57613dc25bed7a3b76ddcc58db212a2078ad71", checked := Tryz.checked }
namespace Rows
def none {H : Type} : Left H := { results := [], args := [] }

/-- 'geoproverlaw45.DrawingSimilar': WHATEVER THE INPUT: true; the input reads as it did. -/
def drawingSimilarSpec : ChangeSpec := { name := "drawingSimilar", fn := fun _ => fun
  | [d1, d2] => { results := [.lit (.bool true)], args := [d1, d2] }
  | _ => none }
def drawingSimilarRow : OpenClaim := { program := "ytjbjejmmnbdbiaagreat", sum := "bad284649dd76eb01db1bb64be57613dc25bed7a3b76ddcc58db212a2078ad71", func := "geoprover/geoproverlaw45.DrawingSimilar", spec := "drawingSimilar", unfollowed := true, recurses := true, apart := false }
def DrawingSimilarSaid : Prop := drawingSimilarRow.holds Tryz.pinned (OpenSpec.ofChange drawingSimilarSpec)

/-- ITS FALSE NEIGHBOUR: 'it returns false'. Refute it at one input. -/
def drawingSimilarWrong : ChangeSpec := { name := "drawingSimilar", fn := fun _ => fun
  | [d1, d2] => { results := [.lit (.bool false)], args := [d1, d2] }
  | _ => none }
def DrawingSimilarWrongFalsely : Prop := drawingSimilarRow.holds Tryz.pinned (OpenSpec.ofChange drawingSimilarWrong)

/-- 'geoproverlaw45.DrawingParts': WHATEVER THE INPUT: true; the input reads as it did. -/
def drawingPartsSpec : ChangeSpec := { name := "drawingParts", fn := fun _ => fun
  | [d1, d2] => { results := [.lit (.bool true)], args := [d1, d2] }
  | _ => none }
def drawingPartsRow : OpenClaim := { program := "ytjbjejmmnbdbiaagreat", sum := "bad284649dd76eb01db1bb64be57613dc25bed7a3b76ddcc58db212a2078ad71", func := "geoprover/geoproverlaw45.DrawingParts", spec := "drawingParts", unfollowed := true, recurses := true, apart := false }
def DrawingPartsSaid : Prop := drawingPartsRow.holds Tryz.pinned (OpenSpec.ofChange drawingPartsSpec)

/-- ITS FALSE NEIGHBOUR: 'it returns false'. Refute it at one input. -/
def drawingPartsWrong : ChangeSpec := { name := "drawingParts", fn := fun _ => fun
  | [d1, d2] => { results := [.lit (.bool false)], args := [d1, d2] }
  | _ => none }
def DrawingPartsWrongFalsely : Prop := drawingPartsRow.holds Tryz.pinned (OpenSpec.ofChange drawingPartsWrong)

/- THE SECOND FORM. 'bulk': how many values and letters a reading holds, each counted each time it is reached (what is shared counts as often as it is met; a slice's spare places count too). A statement '..UptoSaid' is the law's where the arguments, and the package variables that the reading takes, are together of bulk at most 1048576: NARROWER than '..Said'. Prove '..Said' where nothing that the law and all that it calls make is longer than what came in: it says more and counts as full. Else prove '..UptoSaid'. A law counts once. -/
mutual
def uptoBulk {H : Type} : DataW H → Nat
  | .lit (.string bytes) => bytes.length + 1
  | .lit _ => 1
  | .nil => 1
  | .ptr d => uptoBulk d + 1
  | .slice elems spare => uptoBulkAll elems + uptoBulkAll spare + 1
  | .agg parts => uptoBulkAll parts + 1
  | .iface _ d => uptoBulk d + 1
  | .map entries => uptoBulkEntries entries + 1
  | .held _ => 1
def uptoBulkAll {H : Type} : List (DataW H) → Nat
  | [] => 0
  | d :: r => uptoBulk d + uptoBulkAll r
def uptoBulkEntries {H : Type} : List (Lit × DataW H) → Nat
  | [] => 0
  | x :: r => uptoBulkEntry x + uptoBulkEntries r
def uptoBulkEntry {H : Type} : Lit × DataW H → Nat
  | (.string bytes, d) => bytes.length + uptoBulk d + 1
  | (_, d) => uptoBulk d + 1
 end
def uptoSmall : (H : Type) → List (DataW H) → Bool := fun _ ds => decide (uptoBulkAll ds ≤ 1048576)
def OpenSpec.upto (s : _root_.Go.ChangeSpec) : _root_.Go.OpenSpec := { _root_.Go.OpenSpec.ofChange s with cond := some uptoSmall }

/-- 'geoproverlaw45.DrawingSimilar', WHERE WHAT IT READS IS OF BULK AT MOST 1048576: true; the input reads as it did. -/
def drawingSimilarUptoRow : OpenClaim := { program := "ytjbjejmmnbdbiaagreat", sum := "bad284649dd76eb01db1bb64be57613dc25bed7a3b76ddcc58db212a2078ad71", func := "geoprover/geoproverlaw45.DrawingSimilar", spec := "drawingSimilar", unfollowed := true, recurses := true, apart := false, narrowed := true }
def DrawingSimilarUptoSaid : Prop := drawingSimilarUptoRow.holds Tryz.pinned (OpenSpec.upto drawingSimilarSpec)

/-- 'geoproverlaw45.DrawingParts', WHERE WHAT IT READS IS OF BULK AT MOST 1048576: true; the input reads as it did. -/
def drawingPartsUptoRow : OpenClaim := { program := "ytjbjejmmnbdbiaagreat", sum := "bad284649dd76eb01db1bb64be57613dc25bed7a3b76ddcc58db212a2078ad71", func := "geoprover/geoproverlaw45.DrawingParts", spec := "drawingParts", unfollowed := true, recurses := true, apart := false, narrowed := true }
def DrawingPartsUptoSaid : Prop := drawingPartsUptoRow.holds Tryz.pinned (OpenSpec.upto drawingPartsSpec)

end Rows
end Go.Proofs.YtjbjejmmnbdbiaaGreat
