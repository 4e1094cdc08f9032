/-
  No cell of these rows narrows 'for every input' (looked for: loops, veiled, ifaces, maps, wideKeys, modest, calm, conditions, laid).
  DERIVED. THE GIVEN ROWS OF THIS SEAT. 3 by the template 'for every input the law returns true; each argument reads behind the call as it read before'; 0 by the template 'total and deterministic' (their statements: YtajokainammahaaTotals.lean).
  GIVEN WITH THE SEED: the statements are not yours to turn. If you find one false, say at which input.
  Laid BY PROGRAM, IN A SANDBOX (cutbox-rows.mjs): the forced cells as the released guide's own fill.sh prints them over the translation 485ee00990eb0c61… (all of the seat's roots in one cut). By AI agents, Wed Nov 11 2026. No macro, syntax, notation, axiom, sorry.
-/
import Derived.Test.YtajokainammahaaChecked
import GoSem.Claim
import GoSem.ClaimJoined
import GoSem.ClaimMapViews
import Derived.JoinedTies
import Derived.KernelRfl
namespace Go.Proofs.Ytajokainammahaa
/- THE CELL 'sum', in the pinned program and in every row, IS THE sha256 OF THE DUMP (.gsa) THAT YtajokainammahaaProg.lean LOADS. Nothing in Lean hashes anything: it is a label: what it is worth is what the hold of that sum in a sandbox is worth. -/
noncomputable def Try.pinned : Pinned := { name := "ytajokainammahaa", sum := "485ee00990eb0c615a19f3813bb59b149bc361fadfc7d0d50450d206671dba3b", checked := Try.checked }
namespace Rows
def none {H : Type} : Left H := { results := [], args := [] }

/-- 'dynamometerlaw7.LoadCountAddsUp': WHATEVER THE INPUT: true; the input reads as it did. -/
def loadCountAddsUpSpec : ChangeSpec := { name := "loadCountAddsUp", fn := fun _ => fun
  | [d1, d2, d3, d4] => { results := [.lit (.bool true)], args := [d1, d2, d3, d4] }
  | _ => none }
def loadCountAddsUpRow : OpenClaim := { program := "ytajokainammahaa", sum := "485ee00990eb0c615a19f3813bb59b149bc361fadfc7d0d50450d206671dba3b", func := "dynamometer/dynamometerlaw7.LoadCountAddsUp", spec := "loadCountAddsUp", inPlace := ["math/bits.Add64", "math/bits.Sub64"], named := ["math/bits.divideError", "math/bits.overflowError"], apart := false }
def LoadCountAddsUpSaid : Prop := loadCountAddsUpRow.holds Try.pinned (OpenSpec.ofChange loadCountAddsUpSpec)

/-- ITS FALSE NEIGHBOUR: 'it returns false'. Refute it at one input. -/
def loadCountAddsUpWrong : ChangeSpec := { name := "loadCountAddsUp", fn := fun _ => fun
  | [d1, d2, d3, d4] => { results := [.lit (.bool false)], args := [d1, d2, d3, d4] }
  | _ => none }
def LoadCountAddsUpWrongFalsely : Prop := loadCountAddsUpRow.holds Try.pinned (OpenSpec.ofChange loadCountAddsUpWrong)

/-- 'dynamometerlaw7.LoadAdmitKeepsTheLimit': WHATEVER THE INPUT: true; the input reads as it did. -/
def loadAdmitKeepsTheLimitSpec : ChangeSpec := { name := "loadAdmitKeepsTheLimit", fn := fun _ => fun
  | [d1, d2, d3] => { results := [.lit (.bool true)], args := [d1, d2, d3] }
  | _ => none }
def loadAdmitKeepsTheLimitRow : OpenClaim := { program := "ytajokainammahaa", sum := "485ee00990eb0c615a19f3813bb59b149bc361fadfc7d0d50450d206671dba3b", func := "dynamometer/dynamometerlaw7.LoadAdmitKeepsTheLimit", spec := "loadAdmitKeepsTheLimit", inPlace := ["math/bits.Add64", "math/bits.Sub64"], named := ["math/bits.divideError", "math/bits.overflowError"], apart := false }
def LoadAdmitKeepsTheLimitSaid : Prop := loadAdmitKeepsTheLimitRow.holds Try.pinned (OpenSpec.ofChange loadAdmitKeepsTheLimitSpec)

/-- ITS FALSE NEIGHBOUR: 'it returns false'. Refute it at one input. -/
def loadAdmitKeepsTheLimitWrong : ChangeSpec := { name := "loadAdmitKeepsTheLimit", fn := fun _ => fun
  | [d1, d2, d3] => { results := [.lit (.bool false)], args := [d1, d2, d3] }
  | _ => none }
def LoadAdmitKeepsTheLimitWrongFalsely : Prop := loadAdmitKeepsTheLimitRow.holds Try.pinned (OpenSpec.ofChange loadAdmitKeepsTheLimitWrong)

/-- 'dynamometerlaw7.LoadSpansAreUsers': WHATEVER THE INPUT: true; the input reads as it did. -/
def loadSpansAreUsersSpec : ChangeSpec := { name := "loadSpansAreUsers", fn := fun _ => fun
  | [d] => { results := [.lit (.bool true)], args := [d] }
  | _ => none }
def loadSpansAreUsersRow : OpenClaim := { program := "ytajokainammahaa", sum := "485ee00990eb0c615a19f3813bb59b149bc361fadfc7d0d50450d206671dba3b", func := "dynamometer/dynamometerlaw7.LoadSpansAreUsers", spec := "loadSpansAreUsers", inPlace := ["math/bits.Add64", "math/bits.Sub64"], unfollowed := true, recurses := true, named := ["math/bits.divideError", "math/bits.overflowError"], apart := false }
def LoadSpansAreUsersSaid : Prop := loadSpansAreUsersRow.holds Try.pinned (OpenSpec.ofChange loadSpansAreUsersSpec)

/-- ITS FALSE NEIGHBOUR: 'it returns false'. Refute it at one input. -/
def loadSpansAreUsersWrong : ChangeSpec := { name := "loadSpansAreUsers", fn := fun _ => fun
  | [d] => { results := [.lit (.bool false)], args := [d] }
  | _ => none }
def LoadSpansAreUsersWrongFalsely : Prop := loadSpansAreUsersRow.holds Try.pinned (OpenSpec.ofChange loadSpansAreUsersWrong)

/- THE SECOND FORM. 'bulk': how many values and letters a reading holds, each counted each time it is reached (what is shared counts as often as it is met; a slice's spare places count too). A statement '..UptoSaid' is the law's where the arguments, and the package variables that the reading takes, are together of bulk at most 1048576: NARROWER than '..Said'. Prove '..Said' where nothing that the law and all that it calls make is longer than what came in: it says more and counts as full. Else prove '..UptoSaid'. A law counts once. -/
mutual
def uptoBulk {H : Type} : DataW H → Nat
  | .lit (.string bytes) => bytes.length + 1
  | .lit _ => 1
  | .nil => 1
  | .ptr d => uptoBulk d + 1
  | .slice elems spare => uptoBulkAll elems + uptoBulkAll spare + 1
  | .agg parts => uptoBulkAll parts + 1
  | .iface _ d => uptoBulk d + 1
  | .map entries => uptoBulkEntries entries + 1
  | .held _ => 1
def uptoBulkAll {H : Type} : List (DataW H) → Nat
  | [] => 0
  | d :: r => uptoBulk d + uptoBulkAll r
def uptoBulkEntries {H : Type} : List (Lit × DataW H) → Nat
  | [] => 0
  | x :: r => uptoBulkEntry x + uptoBulkEntries r
def uptoBulkEntry {H : Type} : Lit × DataW H → Nat
  | (.string bytes, d) => bytes.length + uptoBulk d + 1
  | (_, d) => uptoBulk d + 1
 end
def uptoSmall : (H : Type) → List (DataW H) → Bool := fun _ ds => decide (uptoBulkAll ds ≤ 1048576)
def OpenSpec.upto (s : _root_.Go.ChangeSpec) : _root_.Go.OpenSpec := { _root_.Go.OpenSpec.ofChange s with cond := some uptoSmall }

/-- 'dynamometerlaw7.LoadCountAddsUp', WHERE WHAT IT READS IS OF BULK AT MOST 1048576: true; the input reads as it did. -/
def loadCountAddsUpUptoRow : OpenClaim := { program := "ytajokainammahaa", sum := "485ee00990eb0c615a19f3813bb59b149bc361fadfc7d0d50450d206671dba3b", func := "dynamometer/dynamometerlaw7.LoadCountAddsUp", spec := "loadCountAddsUp", inPlace := ["math/bits.Add64", "math/bits.Sub64"], named := ["math/bits.divideError", "math/bits.overflowError"], apart := false, narrowed := true }
def LoadCountAddsUpUptoSaid : Prop := loadCountAddsUpUptoRow.holds Try.pinned (OpenSpec.upto loadCountAddsUpSpec)

/-- 'dynamometerlaw7.LoadAdmitKeepsTheLimit', WHERE WHAT IT READS IS OF BULK AT MOST 1048576: true; the input reads as it did. -/
def loadAdmitKeepsTheLimitUptoRow : OpenClaim := { program := "ytajokainammahaa", sum := "485ee00990eb0c615a19f3813bb59b149bc361fadfc7d0d50450d206671dba3b", func := "dynamometer/dynamometerlaw7.LoadAdmitKeepsTheLimit", spec := "loadAdmitKeepsTheLimit", inPlace := ["math/bits.Add64", "math/bits.Sub64"], named := ["math/bits.divideError", "math/bits.overflowError"], apart := false, narrowed := true }
def LoadAdmitKeepsTheLimitUptoSaid : Prop := loadAdmitKeepsTheLimitUptoRow.holds Try.pinned (OpenSpec.upto loadAdmitKeepsTheLimitSpec)

/-- 'dynamometerlaw7.LoadSpansAreUsers', WHERE WHAT IT READS IS OF BULK AT MOST 1048576: true; the input reads as it did. -/
def loadSpansAreUsersUptoRow : OpenClaim := { program := "ytajokainammahaa", sum := "485ee00990eb0c615a19f3813bb59b149bc361fadfc7d0d50450d206671dba3b", func := "dynamometer/dynamometerlaw7.LoadSpansAreUsers", spec := "loadSpansAreUsers", inPlace := ["math/bits.Add64", "math/bits.Sub64"], unfollowed := true, recurses := true, named := ["math/bits.divideError", "math/bits.overflowError"], apart := false, narrowed := true }
def LoadSpansAreUsersUptoSaid : Prop := loadSpansAreUsersUptoRow.holds Try.pinned (OpenSpec.upto loadSpansAreUsersSpec)

end Rows
end Go.Proofs.Ytajokainammahaa
