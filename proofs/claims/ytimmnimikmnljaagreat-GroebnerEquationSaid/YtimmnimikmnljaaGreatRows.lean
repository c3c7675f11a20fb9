/-
  No cell of these rows narrows 'for every input' (looked for: loops, veiled, ifaces, maps, wideKeys, modest, calm, conditions, laid).
  DERIVED. THE GIVEN ROWS OF THIS SEAT. 3 by the template 'for every input the law returns true; each argument reads behind the call as it read before'; 0 by the template 'total and deterministic' (their statements: YtimmnimikmnljaaGreatTotals.lean).
  GIVEN WITH THE SEED: the statements are not yours to turn. If you find one false, say at which input.
  Laid BY PROGRAM, IN A SANDBOX (cutbox-rows.mjs): the forced cells as the released guide's own fill.sh prints them over the translation 7ce9680745aeb68c… (all of the seat's roots in one cut). By AI agents, Wed Nov 11 2026. No macro, syntax, notation, axiom, sorry.
-/
import Derived.Test.YtimmnimikmnljaaGreatChecked
import GoSem.Claim
import GoSem.ClaimJoined
import GoSem.ClaimMapViews
import Derived.JoinedTies
import Derived.KernelRfl
namespace Go.Proofs.YtimmnimikmnljaaGreat
/- THE CELL 'sum', in the pinned program and in every row, IS THE sha256 OF THE DUMP (.gsa) THAT YtimmnimikmnljaaGreatProg.lean LOADS. Nothing in Lean hashes anything: it is a label: what it is worth is what the hold of that sum in a sandbox is worth. -/
noncomputable def Tryz.pinned : Pinned := { name := "ytimmnimikmnljaagreat", sum := "7ce9680745aeb68cb27c0ab2b53d3945e8d4cd737bbbb2ab1ca7628400f86b45", checked := Tryz.checked }
namespace Rows
def none {H : Type} : Left H := { results := [], args := [] }

/-- 'geoproverlaw12.GroebnerDivides': WHATEVER THE INPUT: true; the input reads as it did. -/
def groebnerDividesSpec : ChangeSpec := { name := "groebnerDivides", fn := fun _ => fun
  | [d1, d2, d3] => { results := [.lit (.bool true)], args := [d1, d2, d3] }
  | _ => none }
def groebnerDividesRow : OpenClaim := { program := "ytimmnimikmnljaagreat", sum := "7ce9680745aeb68cb27c0ab2b53d3945e8d4cd737bbbb2ab1ca7628400f86b45", func := "geoprover/geoproverlaw12.GroebnerDivides", spec := "groebnerDivides", unfollowed := true, recurses := true, plainKeys := false, apart := false }
def GroebnerDividesSaid : Prop := groebnerDividesRow.holds Tryz.pinned (OpenSpec.ofChange groebnerDividesSpec)

/-- ITS FALSE NEIGHBOUR: 'it returns false'. Refute it at one input. -/
def groebnerDividesWrong : ChangeSpec := { name := "groebnerDivides", fn := fun _ => fun
  | [d1, d2, d3] => { results := [.lit (.bool false)], args := [d1, d2, d3] }
  | _ => none }
def GroebnerDividesWrongFalsely : Prop := groebnerDividesRow.holds Tryz.pinned (OpenSpec.ofChange groebnerDividesWrong)

/-- 'geoproverlaw12.GroebnerPairs': WHATEVER THE INPUT: true; the input reads as it did. -/
def groebnerPairsSpec : ChangeSpec := { name := "groebnerPairs", fn := fun _ => fun
  | [d1, d2, d3] => { results := [.lit (.bool true)], args := [d1, d2, d3] }
  | _ => none }
def groebnerPairsRow : OpenClaim := { program := "ytimmnimikmnljaagreat", sum := "7ce9680745aeb68cb27c0ab2b53d3945e8d4cd737bbbb2ab1ca7628400f86b45", func := "geoprover/geoproverlaw12.GroebnerPairs", spec := "groebnerPairs", unfollowed := true, recurses := true, plainKeys := false, apart := false }
def GroebnerPairsSaid : Prop := groebnerPairsRow.holds Tryz.pinned (OpenSpec.ofChange groebnerPairsSpec)

/-- ITS FALSE NEIGHBOUR: 'it returns false'. Refute it at one input. -/
def groebnerPairsWrong : ChangeSpec := { name := "groebnerPairs", fn := fun _ => fun
  | [d1, d2, d3] => { results := [.lit (.bool false)], args := [d1, d2, d3] }
  | _ => none }
def GroebnerPairsWrongFalsely : Prop := groebnerPairsRow.holds Tryz.pinned (OpenSpec.ofChange groebnerPairsWrong)

/-- 'geoproverlaw12.GroebnerEquation': WHATEVER THE INPUT: true; the input reads as it did. -/
def groebnerEquationSpec : ChangeSpec := { name := "groebnerEquation", fn := fun _ => fun
  | [d1, d2, d3] => { results := [.lit (.bool true)], args := [d1, d2, d3] }
  | _ => none }
def groebnerEquationRow : OpenClaim := { program := "ytimmnimikmnljaagreat", sum := "7ce9680745aeb68cb27c0ab2b53d3945e8d4cd737bbbb2ab1ca7628400f86b45", func := "geoprover/geoproverlaw12.GroebnerEquation", spec := "groebnerEquation", unfollowed := true, recurses := true, plainKeys := false, apart := false }
def GroebnerEquationSaid : Prop := groebnerEquationRow.holds Tryz.pinned (OpenSpec.ofChange groebnerEquationSpec)

/-- ITS FALSE NEIGHBOUR: 'it returns false'. Refute it at one input. -/
def groebnerEquationWrong : ChangeSpec := { name := "groebnerEquation", fn := fun _ => fun
  | [d1, d2, d3] => { results := [.lit (.bool false)], args := [d1, d2, d3] }
  | _ => none }
def GroebnerEquationWrongFalsely : Prop := groebnerEquationRow.holds Tryz.pinned (OpenSpec.ofChange groebnerEquationWrong)

/- THE SECOND FORM. 'bulk': how many values and letters a reading holds, each counted each time it is reached (what is shared counts as often as it is met; a slice's spare places count too). A statement '..UptoSaid' is the law's where the arguments, and the package variables that the reading takes, are together of bulk at most 1048576: NARROWER than '..Said'. Prove '..Said' where nothing that the law and all that it calls make is longer than what came in: it says more and counts as full. Else prove '..UptoSaid'. A law counts once. -/
mutual
def uptoBulk {H : Type} : DataW H → Nat
  | .lit (.string bytes) => bytes.length + 1
  | .lit _ => 1
  | .nil => 1
  | .ptr d => uptoBulk d + 1
  | .slice elems spare => uptoBulkAll elems + uptoBulkAll spare + 1
  | .agg parts => uptoBulkAll parts + 1
  | .iface _ d => uptoBulk d + 1
  | .map entries => uptoBulkEntries entries + 1
  | .held _ => 1
def uptoBulkAll {H : Type} : List (DataW H) → Nat
  | [] => 0
  | d :: r => uptoBulk d + uptoBulkAll r
def uptoBulkEntries {H : Type} : List (Lit × DataW H) → Nat
  | [] => 0
  | x :: r => uptoBulkEntry x + uptoBulkEntries r
def uptoBulkEntry {H : Type} : Lit × DataW H → Nat
  | (.string bytes, d) => bytes.length + uptoBulk d + 1
  | (_, d) => uptoBulk d + 1
 end
def uptoSmall : (H : Type) → List (DataW H) → Bool := fun _ ds => decide (uptoBulkAll ds ≤ 1048576)
def OpenSpec.upto (s : _root_.Go.ChangeSpec) : _root_.Go.OpenSpec := { _root_.Go.OpenSpec.ofChange s with cond := some uptoSmall }

/-- 'geoproverlaw12.GroebnerDivides', WHERE WHAT IT READS IS OF BULK AT MOST 1048576: true; the input reads as it did. -/
def groebnerDividesUptoRow : OpenClaim := { program := "ytimmnimikmnljaagreat", sum := "7ce9680745aeb68cb27c0ab2b53d3945e8d4cd737bbbb2ab1ca7628400f86b45", func := "geoprover/geoproverlaw12.GroebnerDivides", spec := "groebnerDivides", unfollowed := true, recurses := true, plainKeys := false, apart := false, narrowed := true }
def GroebnerDividesUptoSaid : Prop := groebnerDividesUptoRow.holds Tryz.pinned (OpenSpec.upto groebnerDividesSpec)

/-- 'geoproverlaw12.GroebnerPairs', WHERE WHAT IT READS IS OF BULK AT MOST 1048576: true; the input reads as it did. -/
def groebnerPairsUptoRow : OpenClaim := { program := "ytimmnimikmnljaagreat", sum := "7ce9680745aeb68cb27c0ab2b53d3945e8d4cd737bbbb2ab1ca7628400f86b45", func := "geoprover/geoproverlaw12.GroebnerPairs", spec := "groebnerPairs", unfollowed := true, recurses := true, plainKeys := false, apart := false, narrowed := true }
def GroebnerPairsUptoSaid : Prop := groebnerPairsUptoRow.holds Tryz.pinned (OpenSpec.upto groebnerPairsSpec)

/-- 'geoproverlaw12.GroebnerEquation', WHERE WHAT IT READS IS OF BULK AT MOST 1048576: true; the input reads as it did. -/
def groebnerEquationUptoRow : OpenClaim := { program := "ytimmnimikmnljaagreat", sum := "7ce9680745aeb68cb27c0ab2b53d3945e8d4cd737bbbb2ab1ca7628400f86b45", func := "geoprover/geoproverlaw12.GroebnerEquation", spec := "groebnerEquation", unfollowed := true, recurses := true, plainKeys := false, apart := false, narrowed := true }
def GroebnerEquationUptoSaid : Prop := groebnerEquationUptoRow.holds Tryz.pinned (OpenSpec.upto groebnerEquationSpec)

end Rows
end Go.Proofs.YtimmnimikmnljaaGreat
