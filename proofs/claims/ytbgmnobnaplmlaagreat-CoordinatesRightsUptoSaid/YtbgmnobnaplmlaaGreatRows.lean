/-
  No cell of these rows narrows 'for every input' (looked for: loops, veiled, ifaces, maps, wideKeys, modest, calm, conditions, laid).
  DERIVED. THE GIVEN ROWS OF THIS SEAT. 11 by the template 'for every input the law returns true; each argument reads behind the call as it read before'; 0 by the template 'total and deterministic' (their statements: YtbgmnobnaplmlaaGreatTotals.lean).
  GIVEN WITH THE SEED: the statements are not yours to turn. If you find one false, say at which input.
  Laid BY PROGRAM, IN A SANDBOX (cutbox-rows.mjs): the forced cells as the released guide's own fill.sh prints them over the translation 810836ee56b63708… (all of the seat's roots in one cut). By AI agents, Wed Nov 11 2026. No macro, syntax, notation, axiom, sorry.
-/
import Derived.Test.YtbgmnobnaplmlaaGreatChecked
import GoSem.Claim
import GoSem.ClaimJoined
import GoSem.ClaimMapViews
import Derived.JoinedTies
import Derived.KernelRfl
namespace Go.Proofs.YtbgmnobnaplmlaaGreat
/- THE CELL 'sum', in the pinned program and in every row, IS THE sha256 OF THE DUMP (.gsa) THAT YtbgmnobnaplmlaaGreatProg.lean LOADS. Nothing in Lean hashes anything: it is a label: what it is worth is what the hold of that sum in a sandbox is worth. -/
noncomputable def Tryz.pinned : Pinned := { name := "ytbgmnobnaplmlaagreat", sum := "810836ee56b6370823f6d43d5486f72f252af2032100bdb80c7c9f5afbb532fe", checked := Tryz.checked }
namespace Rows
def none {H : Type} : Left H := { results := [], args := [] }

/-- 'geoproverlaw21.CoordinatesFrames': WHATEVER THE INPUT: true; the input reads as it did. -/
def coordinatesFramesSpec : ChangeSpec := { name := "coordinatesFrames", fn := fun _ => fun
  | [d] => { results := [.lit (.bool true)], args := [d] }
  | _ => none }
def coordinatesFramesRow : OpenClaim := { program := "ytbgmnobnaplmlaagreat", sum := "810836ee56b6370823f6d43d5486f72f252af2032100bdb80c7c9f5afbb532fe", func := "geoprover/geoproverlaw21.CoordinatesFrames", spec := "coordinatesFrames", unfollowed := true, recurses := true, apart := false }
def CoordinatesFramesSaid : Prop := coordinatesFramesRow.holds Tryz.pinned (OpenSpec.ofChange coordinatesFramesSpec)

/-- ITS FALSE NEIGHBOUR: 'it returns false'. Refute it at one input. -/
def coordinatesFramesWrong : ChangeSpec := { name := "coordinatesFrames", fn := fun _ => fun
  | [d] => { results := [.lit (.bool false)], args := [d] }
  | _ => none }
def CoordinatesFramesWrongFalsely : Prop := coordinatesFramesRow.holds Tryz.pinned (OpenSpec.ofChange coordinatesFramesWrong)

/-- 'geoproverlaw21.CoordinatesValues': WHATEVER THE INPUT: true; the input reads as it did. -/
def coordinatesValuesSpec : ChangeSpec := { name := "coordinatesValues", fn := fun _ => fun
  | [d1, d2] => { results := [.lit (.bool true)], args := [d1, d2] }
  | _ => none }
def coordinatesValuesRow : OpenClaim := { program := "ytbgmnobnaplmlaagreat", sum := "810836ee56b6370823f6d43d5486f72f252af2032100bdb80c7c9f5afbb532fe", func := "geoprover/geoproverlaw21.CoordinatesValues", spec := "coordinatesValues", unfollowed := true, recurses := true, apart := false }
def CoordinatesValuesSaid : Prop := coordinatesValuesRow.holds Tryz.pinned (OpenSpec.ofChange coordinatesValuesSpec)

/-- ITS FALSE NEIGHBOUR: 'it returns false'. Refute it at one input. -/
def coordinatesValuesWrong : ChangeSpec := { name := "coordinatesValues", fn := fun _ => fun
  | [d1, d2] => { results := [.lit (.bool false)], args := [d1, d2] }
  | _ => none }
def CoordinatesValuesWrongFalsely : Prop := coordinatesValuesRow.holds Tryz.pinned (OpenSpec.ofChange coordinatesValuesWrong)

/-- 'geoproverlaw21.CoordinatesBeginnings': WHATEVER THE INPUT: true; the input reads as it did. -/
def coordinatesBeginningsSpec : ChangeSpec := { name := "coordinatesBeginnings", fn := fun _ => fun
  | [d1, d2] => { results := [.lit (.bool true)], args := [d1, d2] }
  | _ => none }
def coordinatesBeginningsRow : OpenClaim := { program := "ytbgmnobnaplmlaagreat", sum := "810836ee56b6370823f6d43d5486f72f252af2032100bdb80c7c9f5afbb532fe", func := "geoprover/geoproverlaw21.CoordinatesBeginnings", spec := "coordinatesBeginnings", unfollowed := true, recurses := true, apart := false }
def CoordinatesBeginningsSaid : Prop := coordinatesBeginningsRow.holds Tryz.pinned (OpenSpec.ofChange coordinatesBeginningsSpec)

/-- ITS FALSE NEIGHBOUR: 'it returns false'. Refute it at one input. -/
def coordinatesBeginningsWrong : ChangeSpec := { name := "coordinatesBeginnings", fn := fun _ => fun
  | [d1, d2] => { results := [.lit (.bool false)], args := [d1, d2] }
  | _ => none }
def CoordinatesBeginningsWrongFalsely : Prop := coordinatesBeginningsRow.holds Tryz.pinned (OpenSpec.ofChange coordinatesBeginningsWrong)

/-- 'geoproverlaw21.CoordinatesRights': WHATEVER THE INPUT: true; the input reads as it did. -/
def coordinatesRightsSpec : ChangeSpec := { name := "coordinatesRights", fn := fun _ => fun
  | [d1, d2] => { results := [.lit (.bool true)], args := [d1, d2] }
  | _ => none }
def coordinatesRightsRow : OpenClaim := { program := "ytbgmnobnaplmlaagreat", sum := "810836ee56b6370823f6d43d5486f72f252af2032100bdb80c7c9f5afbb532fe", func := "geoprover/geoproverlaw21.CoordinatesRights", spec := "coordinatesRights", unfollowed := true, recurses := true, apart := false }
def CoordinatesRightsSaid : Prop := coordinatesRightsRow.holds Tryz.pinned (OpenSpec.ofChange coordinatesRightsSpec)

/-- ITS FALSE NEIGHBOUR: 'it returns false'. Refute it at one input. -/
def coordinatesRightsWrong : ChangeSpec := { name := "coordinatesRights", fn := fun _ => fun
  | [d1, d2] => { results := [.lit (.bool false)], args := [d1, d2] }
  | _ => none }
def CoordinatesRightsWrongFalsely : Prop := coordinatesRightsRow.holds Tryz.pinned (OpenSpec.ofChange coordinatesRightsWrong)

/-- 'geoproverlaw22.HypothesesVectors': WHATEVER THE INPUT: true; the input reads as it did. -/
def hypothesesVectorsSpec : ChangeSpec := { name := "hypothesesVectors", fn := fun _ => fun
  | [d1, d2, d3, d4] => { results := [.lit (.bool true)], args := [d1, d2, d3, d4] }
  | _ => none }
def hypothesesVectorsRow : OpenClaim := { program := "ytbgmnobnaplmlaagreat", sum := "810836ee56b6370823f6d43d5486f72f252af2032100bdb80c7c9f5afbb532fe", func := "geoprover/geoproverlaw22.HypothesesVectors", spec := "hypothesesVectors", unfollowed := true, recurses := true, apart := false }
def HypothesesVectorsSaid : Prop := hypothesesVectorsRow.holds Tryz.pinned (OpenSpec.ofChange hypothesesVectorsSpec)

/-- ITS FALSE NEIGHBOUR: 'it returns false'. Refute it at one input. -/
def hypothesesVectorsWrong : ChangeSpec := { name := "hypothesesVectors", fn := fun _ => fun
  | [d1, d2, d3, d4] => { results := [.lit (.bool false)], args := [d1, d2, d3, d4] }
  | _ => none }
def HypothesesVectorsWrongFalsely : Prop := hypothesesVectorsRow.holds Tryz.pinned (OpenSpec.ofChange hypothesesVectorsWrong)

/-- 'geoproverlaw22.HypothesesSteps': WHATEVER THE INPUT: true; the input reads as it did. -/
def hypothesesStepsSpec : ChangeSpec := { name := "hypothesesSteps", fn := fun _ => fun
  | [d1, d2] => { results := [.lit (.bool true)], args := [d1, d2] }
  | _ => none }
def hypothesesStepsRow : OpenClaim := { program := "ytbgmnobnaplmlaagreat", sum := "810836ee56b6370823f6d43d5486f72f252af2032100bdb80c7c9f5afbb532fe", func := "geoprover/geoproverlaw22.HypothesesSteps", spec := "hypothesesSteps", unfollowed := true, recurses := true, apart := false }
def HypothesesStepsSaid : Prop := hypothesesStepsRow.holds Tryz.pinned (OpenSpec.ofChange hypothesesStepsSpec)

/-- ITS FALSE NEIGHBOUR: 'it returns false'. Refute it at one input. -/
def hypothesesStepsWrong : ChangeSpec := { name := "hypothesesSteps", fn := fun _ => fun
  | [d1, d2] => { results := [.lit (.bool false)], args := [d1, d2] }
  | _ => none }
def HypothesesStepsWrongFalsely : Prop := hypothesesStepsRow.holds Tryz.pinned (OpenSpec.ofChange hypothesesStepsWrong)

/-- 'geoproverlaw22.HypothesesAll': WHATEVER THE INPUT: true; the input reads as it did. -/
def hypothesesAllSpec : ChangeSpec := { name := "hypothesesAll", fn := fun _ => fun
  | [d] => { results := [.lit (.bool true)], args := [d] }
  | _ => none }
def hypothesesAllRow : OpenClaim := { program := "ytbgmnobnaplmlaagreat", sum := "810836ee56b6370823f6d43d5486f72f252af2032100bdb80c7c9f5afbb532fe", func := "geoprover/geoproverlaw22.HypothesesAll", spec := "hypothesesAll", unfollowed := true, recurses := true, apart := false }
def HypothesesAllSaid : Prop := hypothesesAllRow.holds Tryz.pinned (OpenSpec.ofChange hypothesesAllSpec)

/-- ITS FALSE NEIGHBOUR: 'it returns false'. Refute it at one input. -/
def hypothesesAllWrong : ChangeSpec := { name := "hypothesesAll", fn := fun _ => fun
  | [d] => { results := [.lit (.bool false)], args := [d] }
  | _ => none }
def HypothesesAllWrongFalsely : Prop := hypothesesAllRow.holds Tryz.pinned (OpenSpec.ofChange hypothesesAllWrong)

/-- 'geoproverlaw22.HypothesesDegrees': WHATEVER THE INPUT: true; the input reads as it did. -/
def hypothesesDegreesSpec : ChangeSpec := { name := "hypothesesDegrees", fn := fun _ => fun
  | [d1, d2] => { results := [.lit (.bool true)], args := [d1, d2] }
  | _ => none }
def hypothesesDegreesRow : OpenClaim := { program := "ytbgmnobnaplmlaagreat", sum := "810836ee56b6370823f6d43d5486f72f252af2032100bdb80c7c9f5afbb532fe", func := "geoprover/geoproverlaw22.HypothesesDegrees", spec := "hypothesesDegrees", unfollowed := true, recurses := true, apart := false }
def HypothesesDegreesSaid : Prop := hypothesesDegreesRow.holds Tryz.pinned (OpenSpec.ofChange hypothesesDegreesSpec)

/-- ITS FALSE NEIGHBOUR: 'it returns false'. Refute it at one input. -/
def hypothesesDegreesWrong : ChangeSpec := { name := "hypothesesDegrees", fn := fun _ => fun
  | [d1, d2] => { results := [.lit (.bool false)], args := [d1, d2] }
  | _ => none }
def HypothesesDegreesWrongFalsely : Prop := hypothesesDegreesRow.holds Tryz.pinned (OpenSpec.ofChange hypothesesDegreesWrong)

/-- 'geoproverlaw23.ConditionsHold': WHATEVER THE INPUT: true; the input reads as it did. -/
def conditionsHoldSpec : ChangeSpec := { name := "conditionsHold", fn := fun _ => fun
  | [d1, d2] => { results := [.lit (.bool true)], args := [d1, d2] }
  | _ => none }
def conditionsHoldRow : OpenClaim := { program := "ytbgmnobnaplmlaagreat", sum := "810836ee56b6370823f6d43d5486f72f252af2032100bdb80c7c9f5afbb532fe", func := "geoprover/geoproverlaw23.ConditionsHold", spec := "conditionsHold", unfollowed := true, recurses := true, apart := false }
def ConditionsHoldSaid : Prop := conditionsHoldRow.holds Tryz.pinned (OpenSpec.ofChange conditionsHoldSpec)

/-- ITS FALSE NEIGHBOUR: 'it returns false'. Refute it at one input. -/
def conditionsHoldWrong : ChangeSpec := { name := "conditionsHold", fn := fun _ => fun
  | [d1, d2] => { results := [.lit (.bool false)], args := [d1, d2] }
  | _ => none }
def ConditionsHoldWrongFalsely : Prop := conditionsHoldRow.holds Tryz.pinned (OpenSpec.ofChange conditionsHoldWrong)

/-- 'geoproverlaw23.ConditionsTexts': WHATEVER THE INPUT: true; the input reads as it did. -/
def conditionsTextsSpec : ChangeSpec := { name := "conditionsTexts", fn := fun _ => fun
  | [d1, d2] => { results := [.lit (.bool true)], args := [d1, d2] }
  | _ => none }
def conditionsTextsRow : OpenClaim := { program := "ytbgmnobnaplmlaagreat", sum := "810836ee56b6370823f6d43d5486f72f252af2032100bdb80c7c9f5afbb532fe", func := "geoprover/geoproverlaw23.ConditionsTexts", spec := "conditionsTexts", unfollowed := true, recurses := true, apart := false }
def ConditionsTextsSaid : Prop := conditionsTextsRow.holds Tryz.pinned (OpenSpec.ofChange conditionsTextsSpec)

/-- ITS FALSE NEIGHBOUR: 'it returns false'. Refute it at one input. -/
def conditionsTextsWrong : ChangeSpec := { name := "conditionsTexts", fn := fun _ => fun
  | [d1, d2] => { results := [.lit (.bool false)], args := [d1, d2] }
  | _ => none }
def ConditionsTextsWrongFalsely : Prop := conditionsTextsRow.holds Tryz.pinned (OpenSpec.ofChange conditionsTextsWrong)

/-- 'geoproverlaw23.ConditionsListed': WHATEVER THE INPUT: true; the input reads as it did. -/
def conditionsListedSpec : ChangeSpec := { name := "conditionsListed", fn := fun _ => fun
  | [d1, d2] => { results := [.lit (.bool true)], args := [d1, d2] }
  | _ => none }
def conditionsListedRow : OpenClaim := { program := "ytbgmnobnaplmlaagreat", sum := "810836ee56b6370823f6d43d5486f72f252af2032100bdb80c7c9f5afbb532fe", func := "geoprover/geoproverlaw23.ConditionsListed", spec := "conditionsListed", unfollowed := true, recurses := true, apart := false }
def ConditionsListedSaid : Prop := conditionsListedRow.holds Tryz.pinned (OpenSpec.ofChange conditionsListedSpec)

/-- ITS FALSE NEIGHBOUR: 'it returns false'. Refute it at one input. -/
def conditionsListedWrong : ChangeSpec := { name := "conditionsListed", fn := fun _ => fun
  | [d1, d2] => { results := [.lit (.bool false)], args := [d1, d2] }
  | _ => none }
def ConditionsListedWrongFalsely : Prop := conditionsListedRow.holds Tryz.pinned (OpenSpec.ofChange conditionsListedWrong)

/- THE SECOND FORM. 'bulk': how many values and letters a reading holds, each counted each time it is reached (what is shared counts as often as it is met; a slice's spare places count too). A statement '..UptoSaid' is the law's where the arguments, and the package variables that the reading takes, are together of bulk at most 1048576: NARROWER than '..Said'. Prove '..Said' where nothing that the law and all that it calls make is longer than what came in: it says more and counts as full. Else prove '..UptoSaid'. A law counts once. -/
mutual
def uptoBulk {H : Type} : DataW H → Nat
  | .lit (.string bytes) => bytes.length + 1
  | .lit _ => 1
  | .nil => 1
  | .ptr d => uptoBulk d + 1
  | .slice elems spare => uptoBulkAll elems + uptoBulkAll spare + 1
  | .agg parts => uptoBulkAll parts + 1
  | .iface _ d => uptoBulk d + 1
  | .map entries => uptoBulkEntries entries + 1
  | .held _ => 1
def uptoBulkAll {H : Type} : List (DataW H) → Nat
  | [] => 0
  | d :: r => uptoBulk d + uptoBulkAll r
def uptoBulkEntries {H : Type} : List (Lit × DataW H) → Nat
  | [] => 0
  | x :: r => uptoBulkEntry x + uptoBulkEntries r
def uptoBulkEntry {H : Type} : Lit × DataW H → Nat
  | (.string bytes, d) => bytes.length + uptoBulk d + 1
  | (_, d) => uptoBulk d + 1
 end
def uptoSmall : (H : Type) → List (DataW H) → Bool := fun _ ds => decide (uptoBulkAll ds ≤ 1048576)
def OpenSpec.upto (s : _root_.Go.ChangeSpec) : _root_.Go.OpenSpec := { _root_.Go.OpenSpec.ofChange s with cond := some uptoSmall }

/-- 'geoproverlaw21.CoordinatesFrames', WHERE WHAT IT READS IS OF BULK AT MOST 1048576: true; the input reads as it did. -/
def coordinatesFramesUptoRow : OpenClaim := { program := "ytbgmnobnaplmlaagreat", sum := "810836ee56b6370823f6d43d5486f72f252af2032100bdb80c7c9f5afbb532fe", func := "geoprover/geoproverlaw21.CoordinatesFrames", spec := "coordinatesFrames", unfollowed := true, recurses := true, apart := false, narrowed := true }
def CoordinatesFramesUptoSaid : Prop := coordinatesFramesUptoRow.holds Tryz.pinned (OpenSpec.upto coordinatesFramesSpec)

/-- 'geoproverlaw21.CoordinatesValues', WHERE WHAT IT READS IS OF BULK AT MOST 1048576: true; the input reads as it did. -/
def coordinatesValuesUptoRow : OpenClaim := { program := "ytbgmnobnaplmlaagreat", sum := "810836ee56b6370823f6d43d5486f72f252af2032100bdb80c7c9f5afbb532fe", func := "geoprover/geoproverlaw21.CoordinatesValues", spec := "coordinatesValues", unfollowed := true, recurses := true, apart := false, narrowed := true }
def CoordinatesValuesUptoSaid : Prop := coordinatesValuesUptoRow.holds Tryz.pinned (OpenSpec.upto coordinatesValuesSpec)

/-- 'geoproverlaw21.CoordinatesBeginnings', WHERE WHAT IT READS IS OF BULK AT MOST 1048576: true; the input reads as it did. -/
def coordinatesBeginningsUptoRow : OpenClaim := { program := "ytbgmnobnaplmlaagreat", sum := "810836ee56b6370823f6d43d5486f72f252af2032100bdb80c7c9f5afbb532fe", func := "geoprover/geoproverlaw21.CoordinatesBeginnings", spec := "coordinatesBeginnings", unfollowed := true, recurses := true, apart := false, narrowed := true }
def CoordinatesBeginningsUptoSaid : Prop := coordinatesBeginningsUptoRow.holds Tryz.pinned (OpenSpec.upto coordinatesBeginningsSpec)

/-- 'geoproverlaw21.CoordinatesRights', WHERE WHAT IT READS IS OF BULK AT MOST 1048576: true; the input reads as it did. -/
def coordinatesRightsUptoRow : OpenClaim := { program := "ytbgmnobnaplmlaagreat", sum := "810836ee56b6370823f6d43d5486f72f252af2032100bdb80c7c9f5afbb532fe", func := "geoprover/geoproverlaw21.CoordinatesRights", spec := "coordinatesRights", unfollowed := true, recurses := true, apart := false, narrowed := true }
def CoordinatesRightsUptoSaid : Prop := coordinatesRightsUptoRow.holds Tryz.pinned (OpenSpec.upto coordinatesRightsSpec)

/-- 'geoproverlaw22.HypothesesVectors', WHERE WHAT IT READS IS OF BULK AT MOST 1048576: true; the input reads as it did. -/
def hypothesesVectorsUptoRow : OpenClaim := { program := "ytbgmnobnaplmlaagreat", sum := "810836ee56b6370823f6d43d5486f72f252af2032100bdb80c7c9f5afbb532fe", func := "geoprover/geoproverlaw22.HypothesesVectors", spec := "hypothesesVectors", unfollowed := true, recurses := true, apart := false, narrowed := true }
def HypothesesVectorsUptoSaid : Prop := hypothesesVectorsUptoRow.holds Tryz.pinned (OpenSpec.upto hypothesesVectorsSpec)

/-- 'geoproverlaw22.HypothesesSteps', WHERE WHAT IT READS IS OF BULK AT MOST 1048576: true; the input reads as it did. -/
def hypothesesStepsUptoRow : OpenClaim := { program := "ytbgmnobnaplmlaagreat", sum := "810836ee56b6370823f6d43d5486f72f252af2032100bdb80c7c9f5afbb532fe", func := "geoprover/geoproverlaw22.HypothesesSteps", spec := "hypothesesSteps", unfollowed := true, recurses := true, apart := false, narrowed := true }
def HypothesesStepsUptoSaid : Prop := hypothesesStepsUptoRow.holds Tryz.pinned (OpenSpec.upto hypothesesStepsSpec)

/-- 'geoproverlaw22.HypothesesAll', WHERE WHAT IT READS IS OF BULK AT MOST 1048576: true; the input reads as it did. -/
def hypothesesAllUptoRow : OpenClaim := { program := "ytbgmnobnaplmlaagreat", sum := "810836ee56b6370823f6d43d5486f72f252af2032100bdb80c7c9f5afbb532fe", func := "geoprover/geoproverlaw22.HypothesesAll", spec := "hypothesesAll", unfollowed := true, recurses := true, apart := false, narrowed := true }
def HypothesesAllUptoSaid : Prop := hypothesesAllUptoRow.holds Tryz.pinned (OpenSpec.upto hypothesesAllSpec)

/-- 'geoproverlaw22.HypothesesDegrees', WHERE WHAT IT READS IS OF BULK AT MOST 1048576: true; the input reads as it did. -/
def hypothesesDegreesUptoRow : OpenClaim := { program := "ytbgmnobnaplmlaagreat", sum := "810836ee56b6370823f6d43d5486f72f252af2032100bdb80c7c9f5afbb532fe", func := "geoprover/geoproverlaw22.HypothesesDegrees", spec := "hypothesesDegrees", unfollowed := true, recurses := true, apart := false, narrowed := true }
def HypothesesDegreesUptoSaid : Prop := hypothesesDegreesUptoRow.holds Tryz.pinned (OpenSpec.upto hypothesesDegreesSpec)

/-- 'geoproverlaw23.ConditionsHold', WHERE WHAT IT READS IS OF BULK AT MOST 1048576: true; the input reads as it did. -/
def conditionsHoldUptoRow : OpenClaim := { program := "ytbgmnobnaplmlaagreat", sum := "810836ee56b6370823f6d43d5486f72f252af2032100bdb80c7c9f5afbb532fe", func := "geoprover/geoproverlaw23.ConditionsHold", spec := "conditionsHold", unfollowed := true, recurses := true, apart := false, narrowed := true }
def ConditionsHoldUptoSaid : Prop := conditionsHoldUptoRow.holds Tryz.pinned (OpenSpec.upto conditionsHoldSpec)

/-- 'geoproverlaw23.ConditionsTexts', WHERE WHAT IT READS IS OF BULK AT MOST 1048576: true; the input reads as it did. -/
def conditionsTextsUptoRow : OpenClaim := { program := "ytbgmnobnaplmlaagreat", sum := "810836ee56b6370823f6d43d5486f72f252af2032100bdb80c7c9f5afbb532fe", func := "geoprover/geoproverlaw23.ConditionsTexts", spec := "conditionsTexts", unfollowed := true, recurses := true, apart := false, narrowed := true }
def ConditionsTextsUptoSaid : Prop := conditionsTextsUptoRow.holds Tryz.pinned (OpenSpec.upto conditionsTextsSpec)

/-- 'geoproverlaw23.ConditionsListed', WHERE WHAT IT READS IS OF BULK AT MOST 1048576: true; the input reads as it did. -/
def conditionsListedUptoRow : OpenClaim := { program := "ytbgmnobnaplmlaagreat", sum := "810836ee56b6370823f6d43d5486f72f252af2032100bdb80c7c9f5afbb532fe", func := "geoprover/geoproverlaw23.ConditionsListed", spec := "conditionsListed", unfollowed := true, recurses := true, apart := false, narrowed := true }
def ConditionsListedUptoSaid : Prop := conditionsListedUptoRow.holds Tryz.pinned (OpenSpec.upto conditionsListedSpec)

end Rows
end Go.Proofs.YtbgmnobnaplmlaaGreat
