/-
  NARROWER THAN 'FOR EVERY INPUT', by the rows' own cells (each row's printed sentence says how): LoadLineMatchesSpec: laid · LoadEditsKeepAreas: laid · MeasureCompareMatchesSpec: laid · MeasureQuantilesMatchSpec: laid · MeasureSamplesMatchSpec: laid.
  DERIVED. THE GIVEN ROWS OF THIS SEAT. 5 by the template 'for every input the law returns true; each argument reads behind the call as it read before'; 0 by the template 'total and deterministic' (their statements: YtepfmoaihhonlaaGreatDoorTotals.lean).
  GIVEN WITH THE SEED: the statements are not yours to turn. If you find one false, say at which input.
  Laid BY PROGRAM, IN A SANDBOX (cutbox-rows.mjs): the forced cells as the released guide's own fill.sh prints them over the translation 18f79981cef83d96… (all of the seat's roots in one cut). By AI agents, Wed Nov 11 2026. No macro, syntax, notation, axiom, sorry.
-/
import Derived.Test.YtepfmoaihhonlaaGreatDoorChecked
import GoSem.Claim
import GoSem.ClaimJoined
import GoSem.ClaimMapViews
import Derived.JoinedTies
import Derived.KernelRfl
namespace Go.Proofs.YtepfmoaihhonlaaGreatDoor
/- THE CELL 'sum', in the pinned program and in every row, IS THE sha256 OF THE DUMP (.gsa) THAT YtepfmoaihhonlaaGreatDoorProg.lean LOADS. Nothing in Lean hashes anything: it is a label: what it is worth is what the hold of that sum in a sandbox is worth. -/
noncomputable def Tryz.pinned : Pinned := { name := "ytepfmoaihhonlaagreatdoor", sum := "18f79981cef83d9637d036898de64ccba18a6fd7a51392e4ecbb0e34a70eedc7", checked := Tryz.checked }
namespace Rows
def none {H : Type} : Left H := { results := [], args := [] }

/- WHAT THE LISTED PACKAGE-LEVEL VARIABLES READ AS WHEN THE CALL BEGINS. Each datum BY PROGRAM (the guide's laid-datum.mjs) off the statement by which the dump's own 'gosem.cut.vars' lays the variable. In a bare row this is a premise. The card (YtepfmoaihhonlaaGreatDoorCards.lean) ties it to the program's text. -/
def laid_math_bits_deBruijn32tab {H : Type} : DataW H := .agg [.lit (.int .u8 0), .lit (.int .u8 1), .lit (.int .u8 28), .lit (.int .u8 2), .lit (.int .u8 29), .lit (.int .u8 14), .lit (.int .u8 24), .lit (.int .u8 3), .lit (.int .u8 30), .lit (.int .u8 22), .lit (.int .u8 20), .lit (.int .u8 15), .lit (.int .u8 25), .lit (.int .u8 17), .lit (.int .u8 4), .lit (.int .u8 8), .lit (.int .u8 31), .lit (.int .u8 27), .lit (.int .u8 13), .lit (.int .u8 23), .lit (.int .u8 21), .lit (.int .u8 19), .lit (.int .u8 16), .lit (.int .u8 7), .lit (.int .u8 26), .lit (.int .u8 12), .lit (.int .u8 18), .lit (.int .u8 6), .lit (.int .u8 11), .lit (.int .u8 5), .lit (.int .u8 10), .lit (.int .u8 9)]
def laid_math_bits_deBruijn64tab {H : Type} : DataW H := .agg [.lit (.int .u8 0), .lit (.int .u8 1), .lit (.int .u8 56), .lit (.int .u8 2), .lit (.int .u8 57), .lit (.int .u8 49), .lit (.int .u8 28), .lit (.int .u8 3), .lit (.int .u8 61), .lit (.int .u8 58), .lit (.int .u8 42), .lit (.int .u8 50), .lit (.int .u8 38), .lit (.int .u8 29), .lit (.int .u8 17), .lit (.int .u8 4), .lit (.int .u8 62), .lit (.int .u8 47), .lit (.int .u8 59), .lit (.int .u8 36), .lit (.int .u8 45), .lit (.int .u8 43), .lit (.int .u8 51), .lit (.int .u8 22), .lit (.int .u8 53), .lit (.int .u8 39), .lit (.int .u8 33), .lit (.int .u8 30), .lit (.int .u8 24), .lit (.int .u8 18), .lit (.int .u8 12), .lit (.int .u8 5), .lit (.int .u8 63), .lit (.int .u8 55), .lit (.int .u8 48), .lit (.int .u8 27), .lit (.int .u8 60), .lit (.int .u8 41), .lit (.int .u8 37), .lit (.int .u8 16), .lit (.int .u8 46), .lit (.int .u8 35), .lit (.int .u8 44), .lit (.int .u8 21), .lit (.int .u8 52), .lit (.int .u8 32), .lit (.int .u8 23), .lit (.int .u8 11), .lit (.int .u8 54), .lit (.int .u8 26), .lit (.int .u8 40), .lit (.int .u8 15), .lit (.int .u8 34), .lit (.int .u8 20), .lit (.int .u8 31), .lit (.int .u8 10), .lit (.int .u8 25), .lit (.int .u8 14), .lit (.int .u8 19), .lit (.int .u8 9), .lit (.int .u8 13), .lit (.int .u8 8), .lit (.int .u8 7), .lit (.int .u8 6)]
def laid_internal_strconv_uint64pow10 {H : Type} : DataW H := .agg [.lit (.int .u64 1), .lit (.int .u64 10), .lit (.int .u64 100), .lit (.int .u64 1000), .lit (.int .u64 10000), .lit (.int .u64 100000), .lit (.int .u64 1000000), .lit (.int .u64 10000000), .lit (.int .u64 100000000), .lit (.int .u64 1000000000), .lit (.int .u64 10000000000), .lit (.int .u64 100000000000), .lit (.int .u64 1000000000000), .lit (.int .u64 10000000000000), .lit (.int .u64 100000000000000), .lit (.int .u64 1000000000000000), .lit (.int .u64 10000000000000000), .lit (.int .u64 100000000000000000), .lit (.int .u64 1000000000000000000), .lit (.int .u64 10000000000000000000)]

/-- 'dynamometerlaw7.LoadLineMatchesSpec': WHATEVER THE INPUT: true; the input reads as it did. -/
def loadLineMatchesSpecSpec : ChangeSpec := { name := "loadLineMatchesSpec", fn := fun _ => fun
  | [d1, d2] => { results := [.lit (.bool true)], args := [d1, d2] }
  | _ => none }
def loadLineMatchesSpecRow : OpenClaim := { program := "ytepfmoaihhonlaagreatdoor", sum := "18f79981cef83d9637d036898de64ccba18a6fd7a51392e4ecbb0e34a70eedc7", func := "dynamometer/dynamometerlaw7.LoadLineMatchesSpec", spec := "loadLineMatchesSpec", inPlace := ["math/bits.Add64", "math/bits.Sub64", "internal/abi.NoEscape", "internal/bytealg.MakeNoZero"], named := ["math/bits.divideError", "math/bits.overflowError", "internal/strconv.uint64pow10", "math/bits.deBruijn32tab", "math/bits.deBruijn64tab"], plainKeys := false, apart := false, laid := [("math/bits.deBruijn32tab", laid_math_bits_deBruijn32tab), ("math/bits.deBruijn64tab", laid_math_bits_deBruijn64tab), ("internal/strconv.uint64pow10", laid_internal_strconv_uint64pow10)] }
def LoadLineMatchesSpecSaid : Prop := loadLineMatchesSpecRow.holds Tryz.pinned (OpenSpec.ofChange loadLineMatchesSpecSpec)

/-- ITS FALSE NEIGHBOUR: 'it returns false'. Refute it at one input. -/
def loadLineMatchesSpecWrong : ChangeSpec := { name := "loadLineMatchesSpec", fn := fun _ => fun
  | [d1, d2] => { results := [.lit (.bool false)], args := [d1, d2] }
  | _ => none }
def LoadLineMatchesSpecWrongFalsely : Prop := loadLineMatchesSpecRow.holds Tryz.pinned (OpenSpec.ofChange loadLineMatchesSpecWrong)

/-- 'dynamometerlaw7.LoadEditsKeepAreas': WHATEVER THE INPUT: true; the input reads as it did. -/
def loadEditsKeepAreasSpec : ChangeSpec := { name := "loadEditsKeepAreas", fn := fun _ => fun
  | [d1, d2, d3, d4] => { results := [.lit (.bool true)], args := [d1, d2, d3, d4] }
  | _ => none }
def loadEditsKeepAreasRow : OpenClaim := { program := "ytepfmoaihhonlaagreatdoor", sum := "18f79981cef83d9637d036898de64ccba18a6fd7a51392e4ecbb0e34a70eedc7", func := "dynamometer/dynamometerlaw7.LoadEditsKeepAreas", spec := "loadEditsKeepAreas", inPlace := ["math/bits.Add64", "math/bits.Sub64", "internal/abi.NoEscape", "internal/bytealg.MakeNoZero"], unfollowed := true, recurses := true, named := ["math/bits.divideError", "math/bits.overflowError", "internal/strconv.uint64pow10", "math/bits.deBruijn32tab", "math/bits.deBruijn64tab"], plainKeys := false, apart := false, laid := [("math/bits.deBruijn32tab", laid_math_bits_deBruijn32tab), ("math/bits.deBruijn64tab", laid_math_bits_deBruijn64tab), ("internal/strconv.uint64pow10", laid_internal_strconv_uint64pow10)] }
def LoadEditsKeepAreasSaid : Prop := loadEditsKeepAreasRow.holds Tryz.pinned (OpenSpec.ofChange loadEditsKeepAreasSpec)

/-- ITS FALSE NEIGHBOUR: 'it returns false'. Refute it at one input. -/
def loadEditsKeepAreasWrong : ChangeSpec := { name := "loadEditsKeepAreas", fn := fun _ => fun
  | [d1, d2, d3, d4] => { results := [.lit (.bool false)], args := [d1, d2, d3, d4] }
  | _ => none }
def LoadEditsKeepAreasWrongFalsely : Prop := loadEditsKeepAreasRow.holds Tryz.pinned (OpenSpec.ofChange loadEditsKeepAreasWrong)

/-- 'dynamometerlaw9.MeasureCompareMatchesSpec': WHATEVER THE INPUT: true; the input reads as it did. -/
def measureCompareMatchesSpecSpec : ChangeSpec := { name := "measureCompareMatchesSpec", fn := fun _ => fun
  | [d1, d2, d3] => { results := [.lit (.bool true)], args := [d1, d2, d3] }
  | _ => none }
def measureCompareMatchesSpecRow : OpenClaim := { program := "ytepfmoaihhonlaagreatdoor", sum := "18f79981cef83d9637d036898de64ccba18a6fd7a51392e4ecbb0e34a70eedc7", func := "dynamometer/dynamometerlaw9.MeasureCompareMatchesSpec", spec := "measureCompareMatchesSpec", inPlace := ["math/bits.Add64", "math/bits.Sub64", "internal/abi.NoEscape", "internal/bytealg.MakeNoZero", "slices.overlaps[int]"], unfollowed := true, recurses := true, named := ["math/bits.divideError", "math/bits.overflowError", "internal/strconv.uint64pow10", "math/bits.deBruijn32tab", "math/bits.deBruijn64tab"], plainKeys := false, apart := false, laid := [("math/bits.deBruijn32tab", laid_math_bits_deBruijn32tab), ("math/bits.deBruijn64tab", laid_math_bits_deBruijn64tab), ("internal/strconv.uint64pow10", laid_internal_strconv_uint64pow10)] }
def MeasureCompareMatchesSpecSaid : Prop := measureCompareMatchesSpecRow.holds Tryz.pinned (OpenSpec.ofChange measureCompareMatchesSpecSpec)

/-- ITS FALSE NEIGHBOUR: 'it returns false'. Refute it at one input. -/
def measureCompareMatchesSpecWrong : ChangeSpec := { name := "measureCompareMatchesSpec", fn := fun _ => fun
  | [d1, d2, d3] => { results := [.lit (.bool false)], args := [d1, d2, d3] }
  | _ => none }
def MeasureCompareMatchesSpecWrongFalsely : Prop := measureCompareMatchesSpecRow.holds Tryz.pinned (OpenSpec.ofChange measureCompareMatchesSpecWrong)

/-- 'dynamometerlaw9.MeasureQuantilesMatchSpec': WHATEVER THE INPUT: true; the input reads as it did. -/
def measureQuantilesMatchSpecSpec : ChangeSpec := { name := "measureQuantilesMatchSpec", fn := fun _ => fun
  | [d1, d2, d3, d4] => { results := [.lit (.bool true)], args := [d1, d2, d3, d4] }
  | _ => none }
def measureQuantilesMatchSpecRow : OpenClaim := { program := "ytepfmoaihhonlaagreatdoor", sum := "18f79981cef83d9637d036898de64ccba18a6fd7a51392e4ecbb0e34a70eedc7", func := "dynamometer/dynamometerlaw9.MeasureQuantilesMatchSpec", spec := "measureQuantilesMatchSpec", inPlace := ["math/bits.Add64", "math/bits.Sub64", "internal/abi.NoEscape", "internal/bytealg.MakeNoZero", "slices.overlaps[int]"], unfollowed := true, recurses := true, named := ["math/bits.divideError", "math/bits.overflowError", "internal/strconv.uint64pow10", "math/bits.deBruijn32tab", "math/bits.deBruijn64tab"], plainKeys := false, apart := false, laid := [("math/bits.deBruijn32tab", laid_math_bits_deBruijn32tab), ("math/bits.deBruijn64tab", laid_math_bits_deBruijn64tab), ("internal/strconv.uint64pow10", laid_internal_strconv_uint64pow10)] }
def MeasureQuantilesMatchSpecSaid : Prop := measureQuantilesMatchSpecRow.holds Tryz.pinned (OpenSpec.ofChange measureQuantilesMatchSpecSpec)

/-- ITS FALSE NEIGHBOUR: 'it returns false'. Refute it at one input. -/
def measureQuantilesMatchSpecWrong : ChangeSpec := { name := "measureQuantilesMatchSpec", fn := fun _ => fun
  | [d1, d2, d3, d4] => { results := [.lit (.bool false)], args := [d1, d2, d3, d4] }
  | _ => none }
def MeasureQuantilesMatchSpecWrongFalsely : Prop := measureQuantilesMatchSpecRow.holds Tryz.pinned (OpenSpec.ofChange measureQuantilesMatchSpecWrong)

/-- 'dynamometerlaw9.MeasureSamplesMatchSpec': WHATEVER THE INPUT: true; the input reads as it did. -/
def measureSamplesMatchSpecSpec : ChangeSpec := { name := "measureSamplesMatchSpec", fn := fun _ => fun
  | [d1, d2, d3] => { results := [.lit (.bool true)], args := [d1, d2, d3] }
  | _ => none }
def measureSamplesMatchSpecRow : OpenClaim := { program := "ytepfmoaihhonlaagreatdoor", sum := "18f79981cef83d9637d036898de64ccba18a6fd7a51392e4ecbb0e34a70eedc7", func := "dynamometer/dynamometerlaw9.MeasureSamplesMatchSpec", spec := "measureSamplesMatchSpec", inPlace := ["slices.overlaps[int]"], unfollowed := true, recurses := true, named := ["internal/strconv.uint64pow10", "math/bits.deBruijn32tab", "math/bits.deBruijn64tab"], plainKeys := false, apart := false, laid := [("math/bits.deBruijn32tab", laid_math_bits_deBruijn32tab), ("math/bits.deBruijn64tab", laid_math_bits_deBruijn64tab), ("internal/strconv.uint64pow10", laid_internal_strconv_uint64pow10)] }
def MeasureSamplesMatchSpecSaid : Prop := measureSamplesMatchSpecRow.holds Tryz.pinned (OpenSpec.ofChange measureSamplesMatchSpecSpec)

/-- ITS FALSE NEIGHBOUR: 'it returns false'. Refute it at one input. -/
def measureSamplesMatchSpecWrong : ChangeSpec := { name := "measureSamplesMatchSpec", fn := fun _ => fun
  | [d1, d2, d3] => { results := [.lit (.bool false)], args := [d1, d2, d3] }
  | _ => none }
def MeasureSamplesMatchSpecWrongFalsely : Prop := measureSamplesMatchSpecRow.holds Tryz.pinned (OpenSpec.ofChange measureSamplesMatchSpecWrong)

/- THE SECOND FORM. 'bulk': how many values and letters a reading holds, each counted each time it is reached (what is shared counts as often as it is met; a slice's spare places count too). A statement '..UptoSaid' is the law's where the arguments, and the package variables that the reading takes, are together of bulk at most 1048576: NARROWER than '..Said'. Prove '..Said' where nothing that the law and all that it calls make is longer than what came in: it says more and counts as full. Else prove '..UptoSaid'. A law counts once. -/
mutual
def uptoBulk {H : Type} : DataW H → Nat
  | .lit (.string bytes) => bytes.length + 1
  | .lit _ => 1
  | .nil => 1
  | .ptr d => uptoBulk d + 1
  | .slice elems spare => uptoBulkAll elems + uptoBulkAll spare + 1
  | .agg parts => uptoBulkAll parts + 1
  | .iface _ d => uptoBulk d + 1
  | .map entries => uptoBulkEntries entries + 1
  | .held _ => 1
def uptoBulkAll {H : Type} : List (DataW H) → Nat
  | [] => 0
  | d :: r => uptoBulk d + uptoBulkAll r
def uptoBulkEntries {H : Type} : List (Lit × DataW H) → Nat
  | [] => 0
  | x :: r => uptoBulkEntry x + uptoBulkEntries r
def uptoBulkEntry {H : Type} : Lit × DataW H → Nat
  | (.string bytes, d) => bytes.length + uptoBulk d + 1
  | (_, d) => uptoBulk d + 1
 end
def uptoSmall : (H : Type) → List (DataW H) → Bool := fun _ ds => decide (uptoBulkAll ds ≤ 1048576)
def OpenSpec.upto (s : _root_.Go.ChangeSpec) : _root_.Go.OpenSpec := { _root_.Go.OpenSpec.ofChange s with cond := some uptoSmall }

/-- 'dynamometerlaw7.LoadLineMatchesSpec', WHERE WHAT IT READS IS OF BULK AT MOST 1048576: true; the input reads as it did. -/
def loadLineMatchesSpecUptoRow : OpenClaim := { program := "ytepfmoaihhonlaagreatdoor", sum := "18f79981cef83d9637d036898de64ccba18a6fd7a51392e4ecbb0e34a70eedc7", func := "dynamometer/dynamometerlaw7.LoadLineMatchesSpec", spec := "loadLineMatchesSpec", inPlace := ["math/bits.Add64", "math/bits.Sub64", "internal/abi.NoEscape", "internal/bytealg.MakeNoZero"], named := ["math/bits.divideError", "math/bits.overflowError", "internal/strconv.uint64pow10", "math/bits.deBruijn32tab", "math/bits.deBruijn64tab"], plainKeys := false, apart := false, laid := [("math/bits.deBruijn32tab", laid_math_bits_deBruijn32tab), ("math/bits.deBruijn64tab", laid_math_bits_deBruijn64tab), ("internal/strconv.uint64pow10", laid_internal_strconv_uint64pow10)], narrowed := true }
def LoadLineMatchesSpecUptoSaid : Prop := loadLineMatchesSpecUptoRow.holds Tryz.pinned (OpenSpec.upto loadLineMatchesSpecSpec)

/-- 'dynamometerlaw7.LoadEditsKeepAreas', WHERE WHAT IT READS IS OF BULK AT MOST 1048576: true; the input reads as it did. -/
def loadEditsKeepAreasUptoRow : OpenClaim := { program := "ytepfmoaihhonlaagreatdoor", sum := "18f79981cef83d9637d036898de64ccba18a6fd7a51392e4ecbb0e34a70eedc7", func := "dynamometer/dynamometerlaw7.LoadEditsKeepAreas", spec := "loadEditsKeepAreas", inPlace := ["math/bits.Add64", "math/bits.Sub64", "internal/abi.NoEscape", "internal/bytealg.MakeNoZero"], unfollowed := true, recurses := true, named := ["math/bits.divideError", "math/bits.overflowError", "internal/strconv.uint64pow10", "math/bits.deBruijn32tab", "math/bits.deBruijn64tab"], plainKeys := false, apart := false, laid := [("math/bits.deBruijn32tab", laid_math_bits_deBruijn32tab), ("math/bits.deBruijn64tab", laid_math_bits_deBruijn64tab), ("internal/strconv.uint64pow10", laid_internal_strconv_uint64pow10)], narrowed := true }
def LoadEditsKeepAreasUptoSaid : Prop := loadEditsKeepAreasUptoRow.holds Tryz.pinned (OpenSpec.upto loadEditsKeepAreasSpec)

/-- 'dynamometerlaw9.MeasureCompareMatchesSpec', WHERE WHAT IT READS IS OF BULK AT MOST 1048576: true; the input reads as it did. -/
def measureCompareMatchesSpecUptoRow : OpenClaim := { program := "ytepfmoaihhonlaagreatdoor", sum := "18f79981cef83d9637d036898de64ccba18a6fd7a51392e4ecbb0e34a70eedc7", func := "dynamometer/dynamometerlaw9.MeasureCompareMatchesSpec", spec := "measureCompareMatchesSpec", inPlace := ["math/bits.Add64", "math/bits.Sub64", "internal/abi.NoEscape", "internal/bytealg.MakeNoZero", "slices.overlaps[int]"], unfollowed := true, recurses := true, named := ["math/bits.divideError", "math/bits.overflowError", "internal/strconv.uint64pow10", "math/bits.deBruijn32tab", "math/bits.deBruijn64tab"], plainKeys := false, apart := false, laid := [("math/bits.deBruijn32tab", laid_math_bits_deBruijn32tab), ("math/bits.deBruijn64tab", laid_math_bits_deBruijn64tab), ("internal/strconv.uint64pow10", laid_internal_strconv_uint64pow10)], narrowed := true }
def MeasureCompareMatchesSpecUptoSaid : Prop := measureCompareMatchesSpecUptoRow.holds Tryz.pinned (OpenSpec.upto measureCompareMatchesSpecSpec)

/-- 'dynamometerlaw9.MeasureQuantilesMatchSpec', WHERE WHAT IT READS IS OF BULK AT MOST 1048576: true; the input reads as it did. -/
def measureQuantilesMatchSpecUptoRow : OpenClaim := { program := "ytepfmoaihhonlaagreatdoor", sum := "18f79981cef83d9637d036898de64ccba18a6fd7a51392e4ecbb0e34a70eedc7", func := "dynamometer/dynamometerlaw9.MeasureQuantilesMatchSpec", spec := "measureQuantilesMatchSpec", inPlace := ["math/bits.Add64", "math/bits.Sub64", "internal/abi.NoEscape", "internal/bytealg.MakeNoZero", "slices.overlaps[int]"], unfollowed := true, recurses := true, named := ["math/bits.divideError", "math/bits.overflowError", "internal/strconv.uint64pow10", "math/bits.deBruijn32tab", "math/bits.deBruijn64tab"], plainKeys := false, apart := false, laid := [("math/bits.deBruijn32tab", laid_math_bits_deBruijn32tab), ("math/bits.deBruijn64tab", laid_math_bits_deBruijn64tab), ("internal/strconv.uint64pow10", laid_internal_strconv_uint64pow10)], narrowed := true }
def MeasureQuantilesMatchSpecUptoSaid : Prop := measureQuantilesMatchSpecUptoRow.holds Tryz.pinned (OpenSpec.upto measureQuantilesMatchSpecSpec)

/-- 'dynamometerlaw9.MeasureSamplesMatchSpec', WHERE WHAT IT READS IS OF BULK AT MOST 1048576: true; the input reads as it did. -/
def measureSamplesMatchSpecUptoRow : OpenClaim := { program := "ytepfmoaihhonlaagreatdoor", sum := "18f79981cef83d9637d036898de64ccba18a6fd7a51392e4ecbb0e34a70eedc7", func := "dynamometer/dynamometerlaw9.MeasureSamplesMatchSpec", spec := "measureSamplesMatchSpec", inPlace := ["slices.overlaps[int]"], unfollowed := true, recurses := true, named := ["internal/strconv.uint64pow10", "math/bits.deBruijn32tab", "math/bits.deBruijn64tab"], plainKeys := false, apart := false, laid := [("math/bits.deBruijn32tab", laid_math_bits_deBruijn32tab), ("math/bits.deBruijn64tab", laid_math_bits_deBruijn64tab), ("internal/strconv.uint64pow10", laid_internal_strconv_uint64pow10)], narrowed := true }
def MeasureSamplesMatchSpecUptoSaid : Prop := measureSamplesMatchSpecUptoRow.holds Tryz.pinned (OpenSpec.upto measureSamplesMatchSpecSpec)

end Rows
end Go.Proofs.YtepfmoaihhonlaaGreatDoor
