/-
  NARROWER THAN 'FOR EVERY INPUT', by the rows' own cells (each row's printed sentence says how): ExpressionReplaces: laid · ExpressionTexts: laid · ExpressionNorms: laid · ExpressionValues: laid · ExpressionMeans: laid · ExpressionRing: laid · ExpressionSums: laid · ExpressionPolys: laid.
  DERIVED. THE GIVEN ROWS OF THIS SEAT. 8 by the template 'for every input the law returns true; each argument reads behind the call as it read before'; 0 by the template 'total and deterministic' (their statements: YtjekhacnoopdpaaGreatDoorTotals.lean).
  GIVEN WITH THE SEED: the statements are not yours to turn. If you find one false, say at which input.
  Laid BY PROGRAM, IN A SANDBOX (cutbox-rows.mjs): the forced cells as the released guide's own fill.sh prints them over the translation e040f132d11a9f2a… (all of the seat's roots in one cut). By AI agents, Wed Nov 11 2026. No macro, syntax, notation, axiom, sorry.
-/
import Derived.Test.YtjekhacnoopdpaaGreatDoorChecked
import GoSem.Claim
import GoSem.ClaimJoined
import GoSem.ClaimMapViews
import Derived.JoinedTies
import Derived.KernelRfl
namespace Go.Proofs.YtjekhacnoopdpaaGreatDoor
/- THE CELL 'sum', in the pinned program and in every row, IS THE sha256 OF THE DUMP (.gsa) THAT YtjekhacnoopdpaaGreatDoorProg.lean LOADS. Nothing in Lean hashes anything: it is a label: what it is worth is what the hold of that sum in a sandbox is worth. -/
noncomputable def Tryz.pinned : Pinned := { name := "ytjekhacnoopdpaagreatdoor", sum := "e040f132d11a9f2ac48c9d303e259d15a89efdab1c5dbe01aaddaceb80691083", checked := Tryz.checked }
namespace Rows
def none {H : Type} : Left H := { results := [], args := [] }

/- WHAT THE LISTED PACKAGE-LEVEL VARIABLES READ AS WHEN THE CALL BEGINS. Each datum BY PROGRAM (the guide's laid-datum.mjs) off the statement by which the dump's own 'gosem.cut.vars' lays the variable. In a bare row this is a premise. The card (YtjekhacnoopdpaaGreatDoorCards.lean) ties it to the program's text. -/
def laid_math_bits_deBruijn32tab {H : Type} : DataW H := .agg [.lit (.int .u8 0), .lit (.int .u8 1), .lit (.int .u8 28), .lit (.int .u8 2), .lit (.int .u8 29), .lit (.int .u8 14), .lit (.int .u8 24), .lit (.int .u8 3), .lit (.int .u8 30), .lit (.int .u8 22), .lit (.int .u8 20), .lit (.int .u8 15), .lit (.int .u8 25), .lit (.int .u8 17), .lit (.int .u8 4), .lit (.int .u8 8), .lit (.int .u8 31), .lit (.int .u8 27), .lit (.int .u8 13), .lit (.int .u8 23), .lit (.int .u8 21), .lit (.int .u8 19), .lit (.int .u8 16), .lit (.int .u8 7), .lit (.int .u8 26), .lit (.int .u8 12), .lit (.int .u8 18), .lit (.int .u8 6), .lit (.int .u8 11), .lit (.int .u8 5), .lit (.int .u8 10), .lit (.int .u8 9)]
def laid_math_bits_deBruijn64tab {H : Type} : DataW H := .agg [.lit (.int .u8 0), .lit (.int .u8 1), .lit (.int .u8 56), .lit (.int .u8 2), .lit (.int .u8 57), .lit (.int .u8 49), .lit (.int .u8 28), .lit (.int .u8 3), .lit (.int .u8 61), .lit (.int .u8 58), .lit (.int .u8 42), .lit (.int .u8 50), .lit (.int .u8 38), .lit (.int .u8 29), .lit (.int .u8 17), .lit (.int .u8 4), .lit (.int .u8 62), .lit (.int .u8 47), .lit (.int .u8 59), .lit (.int .u8 36), .lit (.int .u8 45), .lit (.int .u8 43), .lit (.int .u8 51), .lit (.int .u8 22), .lit (.int .u8 53), .lit (.int .u8 39), .lit (.int .u8 33), .lit (.int .u8 30), .lit (.int .u8 24), .lit (.int .u8 18), .lit (.int .u8 12), .lit (.int .u8 5), .lit (.int .u8 63), .lit (.int .u8 55), .lit (.int .u8 48), .lit (.int .u8 27), .lit (.int .u8 60), .lit (.int .u8 41), .lit (.int .u8 37), .lit (.int .u8 16), .lit (.int .u8 46), .lit (.int .u8 35), .lit (.int .u8 44), .lit (.int .u8 21), .lit (.int .u8 52), .lit (.int .u8 32), .lit (.int .u8 23), .lit (.int .u8 11), .lit (.int .u8 54), .lit (.int .u8 26), .lit (.int .u8 40), .lit (.int .u8 15), .lit (.int .u8 34), .lit (.int .u8 20), .lit (.int .u8 31), .lit (.int .u8 10), .lit (.int .u8 25), .lit (.int .u8 14), .lit (.int .u8 19), .lit (.int .u8 9), .lit (.int .u8 13), .lit (.int .u8 8), .lit (.int .u8 7), .lit (.int .u8 6)]
def laid_internal_strconv_uint64pow10 {H : Type} : DataW H := .agg [.lit (.int .u64 1), .lit (.int .u64 10), .lit (.int .u64 100), .lit (.int .u64 1000), .lit (.int .u64 10000), .lit (.int .u64 100000), .lit (.int .u64 1000000), .lit (.int .u64 10000000), .lit (.int .u64 100000000), .lit (.int .u64 1000000000), .lit (.int .u64 10000000000), .lit (.int .u64 100000000000), .lit (.int .u64 1000000000000), .lit (.int .u64 10000000000000), .lit (.int .u64 100000000000000), .lit (.int .u64 1000000000000000), .lit (.int .u64 10000000000000000), .lit (.int .u64 100000000000000000), .lit (.int .u64 1000000000000000000), .lit (.int .u64 10000000000000000000)]

/-- 'geoproverlaw33.ExpressionReplaces': WHATEVER THE INPUT: true; the input reads as it did. -/
def expressionReplacesSpec : ChangeSpec := { name := "expressionReplaces", fn := fun _ => fun
  | [d1, d2, d3] => { results := [.lit (.bool true)], args := [d1, d2, d3] }
  | _ => none }
def expressionReplacesRow : OpenClaim := { program := "ytjekhacnoopdpaagreatdoor", sum := "e040f132d11a9f2ac48c9d303e259d15a89efdab1c5dbe01aaddaceb80691083", func := "geoprover/geoproverlaw33.ExpressionReplaces", spec := "expressionReplaces", inPlace := ["internal/abi.NoEscape"], unfollowed := true, recurses := true, named := ["internal/strconv.uint64pow10", "math/bits.deBruijn32tab", "math/bits.deBruijn64tab"], plainKeys := false, apart := false, laid := [("math/bits.deBruijn32tab", laid_math_bits_deBruijn32tab), ("math/bits.deBruijn64tab", laid_math_bits_deBruijn64tab), ("internal/strconv.uint64pow10", laid_internal_strconv_uint64pow10)] }
def ExpressionReplacesSaid : Prop := expressionReplacesRow.holds Tryz.pinned (OpenSpec.ofChange expressionReplacesSpec)

/-- ITS FALSE NEIGHBOUR: 'it returns false'. Refute it at one input. -/
def expressionReplacesWrong : ChangeSpec := { name := "expressionReplaces", fn := fun _ => fun
  | [d1, d2, d3] => { results := [.lit (.bool false)], args := [d1, d2, d3] }
  | _ => none }
def ExpressionReplacesWrongFalsely : Prop := expressionReplacesRow.holds Tryz.pinned (OpenSpec.ofChange expressionReplacesWrong)

/-- 'geoproverlaw33.ExpressionTexts': WHATEVER THE INPUT: true; the input reads as it did. -/
def expressionTextsSpec : ChangeSpec := { name := "expressionTexts", fn := fun _ => fun
  | [d1, d2] => { results := [.lit (.bool true)], args := [d1, d2] }
  | _ => none }
def expressionTextsRow : OpenClaim := { program := "ytjekhacnoopdpaagreatdoor", sum := "e040f132d11a9f2ac48c9d303e259d15a89efdab1c5dbe01aaddaceb80691083", func := "geoprover/geoproverlaw33.ExpressionTexts", spec := "expressionTexts", inPlace := ["internal/abi.NoEscape"], unfollowed := true, recurses := true, named := ["internal/strconv.uint64pow10", "math/bits.deBruijn32tab", "math/bits.deBruijn64tab"], plainKeys := false, apart := false, laid := [("math/bits.deBruijn32tab", laid_math_bits_deBruijn32tab), ("math/bits.deBruijn64tab", laid_math_bits_deBruijn64tab), ("internal/strconv.uint64pow10", laid_internal_strconv_uint64pow10)] }
def ExpressionTextsSaid : Prop := expressionTextsRow.holds Tryz.pinned (OpenSpec.ofChange expressionTextsSpec)

/-- ITS FALSE NEIGHBOUR: 'it returns false'. Refute it at one input. -/
def expressionTextsWrong : ChangeSpec := { name := "expressionTexts", fn := fun _ => fun
  | [d1, d2] => { results := [.lit (.bool false)], args := [d1, d2] }
  | _ => none }
def ExpressionTextsWrongFalsely : Prop := expressionTextsRow.holds Tryz.pinned (OpenSpec.ofChange expressionTextsWrong)

/-- 'geoproverlaw33.ExpressionNorms': WHATEVER THE INPUT: true; the input reads as it did. -/
def expressionNormsSpec : ChangeSpec := { name := "expressionNorms", fn := fun _ => fun
  | [d1, d2, d3] => { results := [.lit (.bool true)], args := [d1, d2, d3] }
  | _ => none }
def expressionNormsRow : OpenClaim := { program := "ytjekhacnoopdpaagreatdoor", sum := "e040f132d11a9f2ac48c9d303e259d15a89efdab1c5dbe01aaddaceb80691083", func := "geoprover/geoproverlaw33.ExpressionNorms", spec := "expressionNorms", inPlace := ["internal/abi.NoEscape"], unfollowed := true, recurses := true, named := ["internal/strconv.uint64pow10", "math/bits.deBruijn32tab", "math/bits.deBruijn64tab"], plainKeys := false, apart := false, laid := [("math/bits.deBruijn32tab", laid_math_bits_deBruijn32tab), ("math/bits.deBruijn64tab", laid_math_bits_deBruijn64tab), ("internal/strconv.uint64pow10", laid_internal_strconv_uint64pow10)] }
def ExpressionNormsSaid : Prop := expressionNormsRow.holds Tryz.pinned (OpenSpec.ofChange expressionNormsSpec)

/-- ITS FALSE NEIGHBOUR: 'it returns false'. Refute it at one input. -/
def expressionNormsWrong : ChangeSpec := { name := "expressionNorms", fn := fun _ => fun
  | [d1, d2, d3] => { results := [.lit (.bool false)], args := [d1, d2, d3] }
  | _ => none }
def ExpressionNormsWrongFalsely : Prop := expressionNormsRow.holds Tryz.pinned (OpenSpec.ofChange expressionNormsWrong)

/-- 'geoproverlaw33.ExpressionValues': WHATEVER THE INPUT: true; the input reads as it did. -/
def expressionValuesSpec : ChangeSpec := { name := "expressionValues", fn := fun _ => fun
  | [d1, d2, d3] => { results := [.lit (.bool true)], args := [d1, d2, d3] }
  | _ => none }
def expressionValuesRow : OpenClaim := { program := "ytjekhacnoopdpaagreatdoor", sum := "e040f132d11a9f2ac48c9d303e259d15a89efdab1c5dbe01aaddaceb80691083", func := "geoprover/geoproverlaw33.ExpressionValues", spec := "expressionValues", inPlace := ["internal/abi.NoEscape"], unfollowed := true, recurses := true, named := ["internal/strconv.uint64pow10", "math/bits.deBruijn32tab", "math/bits.deBruijn64tab"], plainKeys := false, apart := false, laid := [("math/bits.deBruijn32tab", laid_math_bits_deBruijn32tab), ("math/bits.deBruijn64tab", laid_math_bits_deBruijn64tab), ("internal/strconv.uint64pow10", laid_internal_strconv_uint64pow10)] }
def ExpressionValuesSaid : Prop := expressionValuesRow.holds Tryz.pinned (OpenSpec.ofChange expressionValuesSpec)

/-- ITS FALSE NEIGHBOUR: 'it returns false'. Refute it at one input. -/
def expressionValuesWrong : ChangeSpec := { name := "expressionValues", fn := fun _ => fun
  | [d1, d2, d3] => { results := [.lit (.bool false)], args := [d1, d2, d3] }
  | _ => none }
def ExpressionValuesWrongFalsely : Prop := expressionValuesRow.holds Tryz.pinned (OpenSpec.ofChange expressionValuesWrong)

/-- 'geoproverlaw33.ExpressionMeans': WHATEVER THE INPUT: true; the input reads as it did. -/
def expressionMeansSpec : ChangeSpec := { name := "expressionMeans", fn := fun _ => fun
  | [d1, d2, d3, d4, d5] => { results := [.lit (.bool true)], args := [d1, d2, d3, d4, d5] }
  | _ => none }
def expressionMeansRow : OpenClaim := { program := "ytjekhacnoopdpaagreatdoor", sum := "e040f132d11a9f2ac48c9d303e259d15a89efdab1c5dbe01aaddaceb80691083", func := "geoprover/geoproverlaw33.ExpressionMeans", spec := "expressionMeans", inPlace := ["internal/abi.NoEscape"], unfollowed := true, recurses := true, named := ["internal/strconv.uint64pow10", "math/bits.deBruijn32tab", "math/bits.deBruijn64tab"], plainKeys := false, apart := false, laid := [("math/bits.deBruijn32tab", laid_math_bits_deBruijn32tab), ("math/bits.deBruijn64tab", laid_math_bits_deBruijn64tab), ("internal/strconv.uint64pow10", laid_internal_strconv_uint64pow10)] }
def ExpressionMeansSaid : Prop := expressionMeansRow.holds Tryz.pinned (OpenSpec.ofChange expressionMeansSpec)

/-- ITS FALSE NEIGHBOUR: 'it returns false'. Refute it at one input. -/
def expressionMeansWrong : ChangeSpec := { name := "expressionMeans", fn := fun _ => fun
  | [d1, d2, d3, d4, d5] => { results := [.lit (.bool false)], args := [d1, d2, d3, d4, d5] }
  | _ => none }
def ExpressionMeansWrongFalsely : Prop := expressionMeansRow.holds Tryz.pinned (OpenSpec.ofChange expressionMeansWrong)

/-- 'geoproverlaw33.ExpressionRing': WHATEVER THE INPUT: true; the input reads as it did. -/
def expressionRingSpec : ChangeSpec := { name := "expressionRing", fn := fun _ => fun
  | [d1, d2, d3] => { results := [.lit (.bool true)], args := [d1, d2, d3] }
  | _ => none }
def expressionRingRow : OpenClaim := { program := "ytjekhacnoopdpaagreatdoor", sum := "e040f132d11a9f2ac48c9d303e259d15a89efdab1c5dbe01aaddaceb80691083", func := "geoprover/geoproverlaw33.ExpressionRing", spec := "expressionRing", inPlace := ["internal/abi.NoEscape"], unfollowed := true, recurses := true, named := ["internal/strconv.uint64pow10", "math/bits.deBruijn32tab", "math/bits.deBruijn64tab"], plainKeys := false, apart := false, laid := [("math/bits.deBruijn32tab", laid_math_bits_deBruijn32tab), ("math/bits.deBruijn64tab", laid_math_bits_deBruijn64tab), ("internal/strconv.uint64pow10", laid_internal_strconv_uint64pow10)] }
def ExpressionRingSaid : Prop := expressionRingRow.holds Tryz.pinned (OpenSpec.ofChange expressionRingSpec)

/-- ITS FALSE NEIGHBOUR: 'it returns false'. Refute it at one input. -/
def expressionRingWrong : ChangeSpec := { name := "expressionRing", fn := fun _ => fun
  | [d1, d2, d3] => { results := [.lit (.bool false)], args := [d1, d2, d3] }
  | _ => none }
def ExpressionRingWrongFalsely : Prop := expressionRingRow.holds Tryz.pinned (OpenSpec.ofChange expressionRingWrong)

/-- 'geoproverlaw33.ExpressionSums': WHATEVER THE INPUT: true; the input reads as it did. -/
def expressionSumsSpec : ChangeSpec := { name := "expressionSums", fn := fun _ => fun
  | [d1, d2, d3] => { results := [.lit (.bool true)], args := [d1, d2, d3] }
  | _ => none }
def expressionSumsRow : OpenClaim := { program := "ytjekhacnoopdpaagreatdoor", sum := "e040f132d11a9f2ac48c9d303e259d15a89efdab1c5dbe01aaddaceb80691083", func := "geoprover/geoproverlaw33.ExpressionSums", spec := "expressionSums", inPlace := ["internal/abi.NoEscape"], unfollowed := true, recurses := true, named := ["internal/strconv.uint64pow10", "math/bits.deBruijn32tab", "math/bits.deBruijn64tab"], plainKeys := false, apart := false, laid := [("math/bits.deBruijn32tab", laid_math_bits_deBruijn32tab), ("math/bits.deBruijn64tab", laid_math_bits_deBruijn64tab), ("internal/strconv.uint64pow10", laid_internal_strconv_uint64pow10)] }
def ExpressionSumsSaid : Prop := expressionSumsRow.holds Tryz.pinned (OpenSpec.ofChange expressionSumsSpec)

/-- ITS FALSE NEIGHBOUR: 'it returns false'. Refute it at one input. -/
def expressionSumsWrong : ChangeSpec := { name := "expressionSums", fn := fun _ => fun
  | [d1, d2, d3] => { results := [.lit (.bool false)], args := [d1, d2, d3] }
  | _ => none }
def ExpressionSumsWrongFalsely : Prop := expressionSumsRow.holds Tryz.pinned (OpenSpec.ofChange expressionSumsWrong)

/-- 'geoproverlaw33.ExpressionPolys': WHATEVER THE INPUT: true; the input reads as it did. -/
def expressionPolysSpec : ChangeSpec := { name := "expressionPolys", fn := fun _ => fun
  | [d1, d2] => { results := [.lit (.bool true)], args := [d1, d2] }
  | _ => none }
def expressionPolysRow : OpenClaim := { program := "ytjekhacnoopdpaagreatdoor", sum := "e040f132d11a9f2ac48c9d303e259d15a89efdab1c5dbe01aaddaceb80691083", func := "geoprover/geoproverlaw33.ExpressionPolys", spec := "expressionPolys", inPlace := ["internal/abi.NoEscape"], unfollowed := true, recurses := true, named := ["internal/strconv.uint64pow10", "math/bits.deBruijn32tab", "math/bits.deBruijn64tab"], plainKeys := false, apart := false, laid := [("math/bits.deBruijn32tab", laid_math_bits_deBruijn32tab), ("math/bits.deBruijn64tab", laid_math_bits_deBruijn64tab), ("internal/strconv.uint64pow10", laid_internal_strconv_uint64pow10)] }
def ExpressionPolysSaid : Prop := expressionPolysRow.holds Tryz.pinned (OpenSpec.ofChange expressionPolysSpec)

/-- ITS FALSE NEIGHBOUR: 'it returns false'. Refute it at one input. -/
def expressionPolysWrong : ChangeSpec := { name := "expressionPolys", fn := fun _ => fun
  | [d1, d2] => { results := [.lit (.bool false)], args := [d1, d2] }
  | _ => none }
def ExpressionPolysWrongFalsely : Prop := expressionPolysRow.holds Tryz.pinned (OpenSpec.ofChange expressionPolysWrong)

/- THE SECOND FORM. 'bulk': how many values and letters a reading holds, each counted each time it is reached (what is shared counts as often as it is met; a slice's spare places count too). A statement '..UptoSaid' is the law's where the arguments, and the package variables that the reading takes, are together of bulk at most 1048576: NARROWER than '..Said'. Prove '..Said' where nothing that the law and all that it calls make is longer than what came in: it says more and counts as full. Else prove '..UptoSaid'. A law counts once. -/
mutual
def uptoBulk {H : Type} : DataW H → Nat
  | .lit (.string bytes) => bytes.length + 1
  | .lit _ => 1
  | .nil => 1
  | .ptr d => uptoBulk d + 1
  | .slice elems spare => uptoBulkAll elems + uptoBulkAll spare + 1
  | .agg parts => uptoBulkAll parts + 1
  | .iface _ d => uptoBulk d + 1
  | .map entries => uptoBulkEntries entries + 1
  | .held _ => 1
def uptoBulkAll {H : Type} : List (DataW H) → Nat
  | [] => 0
  | d :: r => uptoBulk d + uptoBulkAll r
def uptoBulkEntries {H : Type} : List (Lit × DataW H) → Nat
  | [] => 0
  | x :: r => uptoBulkEntry x + uptoBulkEntries r
def uptoBulkEntry {H : Type} : Lit × DataW H → Nat
  | (.string bytes, d) => bytes.length + uptoBulk d + 1
  | (_, d) => uptoBulk d + 1
 end
def uptoSmall : (H : Type) → List (DataW H) → Bool := fun _ ds => decide (uptoBulkAll ds ≤ 1048576)
def OpenSpec.upto (s : _root_.Go.ChangeSpec) : _root_.Go.OpenSpec := { _root_.Go.OpenSpec.ofChange s with cond := some uptoSmall }

/-- 'geoproverlaw33.ExpressionReplaces', WHERE WHAT IT READS IS OF BULK AT MOST 1048576: true; the input reads as it did. -/
def expressionReplacesUptoRow : OpenClaim := { program := "ytjekhacnoopdpaagreatdoor", sum := "e040f132d11a9f2ac48c9d303e259d15a89efdab1c5dbe01aaddaceb80691083", func := "geoprover/geoproverlaw33.ExpressionReplaces", spec := "expressionReplaces", inPlace := ["internal/abi.NoEscape"], unfollowed := true, recurses := true, named := ["internal/strconv.uint64pow10", "math/bits.deBruijn32tab", "math/bits.deBruijn64tab"], plainKeys := false, apart := false, laid := [("math/bits.deBruijn32tab", laid_math_bits_deBruijn32tab), ("math/bits.deBruijn64tab", laid_math_bits_deBruijn64tab), ("internal/strconv.uint64pow10", laid_internal_strconv_uint64pow10)], narrowed := true }
def ExpressionReplacesUptoSaid : Prop := expressionReplacesUptoRow.holds Tryz.pinned (OpenSpec.upto expressionReplacesSpec)

/-- 'geoproverlaw33.ExpressionTexts', WHERE WHAT IT READS IS OF BULK AT MOST 1048576: true; the input reads as it did. -/
def expressionTextsUptoRow : OpenClaim := { program := "ytjekhacnoopdpaagreatdoor", sum := "e040f132d11a9f2ac48c9d303e259d15a89efdab1c5dbe01aaddaceb80691083", func := "geoprover/geoproverlaw33.ExpressionTexts", spec := "expressionTexts", inPlace := ["internal/abi.NoEscape"], unfollowed := true, recurses := true, named := ["internal/strconv.uint64pow10", "math/bits.deBruijn32tab", "math/bits.deBruijn64tab"], plainKeys := false, apart := false, laid := [("math/bits.deBruijn32tab", laid_math_bits_deBruijn32tab), ("math/bits.deBruijn64tab", laid_math_bits_deBruijn64tab), ("internal/strconv.uint64pow10", laid_internal_strconv_uint64pow10)], narrowed := true }
def ExpressionTextsUptoSaid : Prop := expressionTextsUptoRow.holds Tryz.pinned (OpenSpec.upto expressionTextsSpec)

/-- 'geoproverlaw33.ExpressionNorms', WHERE WHAT IT READS IS OF BULK AT MOST 1048576: true; the input reads as it did. -/
def expressionNormsUptoRow : OpenClaim := { program := "ytjekhacnoopdpaagreatdoor", sum := "e040f132d11a9f2ac48c9d303e259d15a89efdab1c5dbe01aaddaceb80691083", func := "geoprover/geoproverlaw33.ExpressionNorms", spec := "expressionNorms", inPlace := ["internal/abi.NoEscape"], unfollowed := true, recurses := true, named := ["internal/strconv.uint64pow10", "math/bits.deBruijn32tab", "math/bits.deBruijn64tab"], plainKeys := false, apart := false, laid := [("math/bits.deBruijn32tab", laid_math_bits_deBruijn32tab), ("math/bits.deBruijn64tab", laid_math_bits_deBruijn64tab), ("internal/strconv.uint64pow10", laid_internal_strconv_uint64pow10)], narrowed := true }
def ExpressionNormsUptoSaid : Prop := expressionNormsUptoRow.holds Tryz.pinned (OpenSpec.upto expressionNormsSpec)

/-- 'geoproverlaw33.ExpressionValues', WHERE WHAT IT READS IS OF BULK AT MOST 1048576: true; the input reads as it did. -/
def expressionValuesUptoRow : OpenClaim := { program := "ytjekhacnoopdpaagreatdoor", sum := "e040f132d11a9f2ac48c9d303e259d15a89efdab1c5dbe01aaddaceb80691083", func := "geoprover/geoproverlaw33.ExpressionValues", spec := "expressionValues", inPlace := ["internal/abi.NoEscape"], unfollowed := true, recurses := true, named := ["internal/strconv.uint64pow10", "math/bits.deBruijn32tab", "math/bits.deBruijn64tab"], plainKeys := false, apart := false, laid := [("math/bits.deBruijn32tab", laid_math_bits_deBruijn32tab), ("math/bits.deBruijn64tab", laid_math_bits_deBruijn64tab), ("internal/strconv.uint64pow10", laid_internal_strconv_uint64pow10)], narrowed := true }
def ExpressionValuesUptoSaid : Prop := expressionValuesUptoRow.holds Tryz.pinned (OpenSpec.upto expressionValuesSpec)

/-- 'geoproverlaw33.ExpressionMeans', WHERE WHAT IT READS IS OF BULK AT MOST 1048576: true; the input reads as it did. -/
def expressionMeansUptoRow : OpenClaim := { program := "ytjekhacnoopdpaagreatdoor", sum := "e040f132d11a9f2ac48c9d303e259d15a89efdab1c5dbe01aaddaceb80691083", func := "geoprover/geoproverlaw33.ExpressionMeans", spec := "expressionMeans", inPlace := ["internal/abi.NoEscape"], unfollowed := true, recurses := true, named := ["internal/strconv.uint64pow10", "math/bits.deBruijn32tab", "math/bits.deBruijn64tab"], plainKeys := false, apart := false, laid := [("math/bits.deBruijn32tab", laid_math_bits_deBruijn32tab), ("math/bits.deBruijn64tab", laid_math_bits_deBruijn64tab), ("internal/strconv.uint64pow10", laid_internal_strconv_uint64pow10)], narrowed := true }
def ExpressionMeansUptoSaid : Prop := expressionMeansUptoRow.holds Tryz.pinned (OpenSpec.upto expressionMeansSpec)

/-- 'geoproverlaw33.ExpressionRing', WHERE WHAT IT READS IS OF BULK AT MOST 1048576: true; the input reads as it did. -/
def expressionRingUptoRow : OpenClaim := { program := "ytjekhacnoopdpaagreatdoor", sum := "e040f132d11a9f2ac48c9d303e259d15a89efdab1c5dbe01aaddaceb80691083", func := "geoprover/geoproverlaw33.ExpressionRing", spec := "expressionRing", inPlace := ["internal/abi.NoEscape"], unfollowed := true, recurses := true, named := ["internal/strconv.uint64pow10", "math/bits.deBruijn32tab", "math/bits.deBruijn64tab"], plainKeys := false, apart := false, laid := [("math/bits.deBruijn32tab", laid_math_bits_deBruijn32tab), ("math/bits.deBruijn64tab", laid_math_bits_deBruijn64tab), ("internal/strconv.uint64pow10", laid_internal_strconv_uint64pow10)], narrowed := true }
def ExpressionRingUptoSaid : Prop := expressionRingUptoRow.holds Tryz.pinned (OpenSpec.upto expressionRingSpec)

/-- 'geoproverlaw33.ExpressionSums', WHERE WHAT IT READS IS OF BULK AT MOST 1048576: true; the input reads as it did. -/
def expressionSumsUptoRow : OpenClaim := { program := "ytjekhacnoopdpaagreatdoor", sum := "e040f132d11a9f2ac48c9d303e259d15a89efdab1c5dbe01aaddaceb80691083", func := "geoprover/geoproverlaw33.ExpressionSums", spec := "expressionSums", inPlace := ["internal/abi.NoEscape"], unfollowed := true, recurses := true, named := ["internal/strconv.uint64pow10", "math/bits.deBruijn32tab", "math/bits.deBruijn64tab"], plainKeys := false, apart := false, laid := [("math/bits.deBruijn32tab", laid_math_bits_deBruijn32tab), ("math/bits.deBruijn64tab", laid_math_bits_deBruijn64tab), ("internal/strconv.uint64pow10", laid_internal_strconv_uint64pow10)], narrowed := true }
def ExpressionSumsUptoSaid : Prop := expressionSumsUptoRow.holds Tryz.pinned (OpenSpec.upto expressionSumsSpec)

/-- 'geoproverlaw33.ExpressionPolys', WHERE WHAT IT READS IS OF BULK AT MOST 1048576: true; the input reads as it did. -/
def expressionPolysUptoRow : OpenClaim := { program := "ytjekhacnoopdpaagreatdoor", sum := "e040f132d11a9f2ac48c9d303e259d15a89efdab1c5dbe01aaddaceb80691083", func := "geoprover/geoproverlaw33.ExpressionPolys", spec := "expressionPolys", inPlace := ["internal/abi.NoEscape"], unfollowed := true, recurses := true, named := ["internal/strconv.uint64pow10", "math/bits.deBruijn32tab", "math/bits.deBruijn64tab"], plainKeys := false, apart := false, laid := [("math/bits.deBruijn32tab", laid_math_bits_deBruijn32tab), ("math/bits.deBruijn64tab", laid_math_bits_deBruijn64tab), ("internal/strconv.uint64pow10", laid_internal_strconv_uint64pow10)], narrowed := true }
def ExpressionPolysUptoSaid : Prop := expressionPolysUptoRow.holds Tryz.pinned (OpenSpec.upto expressionPolysSpec)

end Rows
end Go.Proofs.YtjekhacnoopdpaaGreatDoor
