/- What every law behind the door shares: the table that its row lists, a world for the witness, and the card out of the row's statement. -/
import Derived.Test.YtepfmoaihhonlaaGreatDoorCards
import Derived.Test.YtepfmoaihhonlaaGreatDoorTie
import Derived.Test.YtepfmoaihhonlaaGreatDoorGOpen
import Derived.Test.YtepfmoaihhonlaaGreatDoorGInk
import Derived.WalkKit
import Derived.ProofKit
import Derived.OpenShut
import Derived.Deep.DeepHandedRow
import Derived.Lib.LaidTab
namespace Go.Proofs.YtepfmoaihhonlaaGreatDoor
open Go Go.ChangeShapes Go.WideShapes Go.ChangeAt Go.RowKit

theorem gPow : Tryz.prog.globalNamed "internal/strconv.uint64pow10" = some 2 := by kernel_rfl
theorem gPowType : (Tryz.prog.globals[2]?).map (·.type) = some 278 := by kernel_rfl
theorem cellsPow : Tryz.prog.cellsOf 278 = 20 := by kernel_rfl
theorem cellsU : Tryz.prog.cellsOf 168 = 1 := by kernel_rfl

/-- the list of the rows of this seat -/
abbrev laid3 : List (String × DataW Unit) := [("math/bits.deBruijn32tab", Rows.laid_math_bits_deBruijn32tab), ("math/bits.deBruijn64tab", Rows.laid_math_bits_deBruijn64tab), ("internal/strconv.uint64pow10", Rows.laid_internal_strconv_uint64pow10)]

theorem table {W : World} (h0 : laidMetH Tryz.prog laid3 W) : Tab W.heap.size W := by
  have h : laidMet Tryz.prog laid3 W := h0
  refine Lib.tabBelow_of_tabIs ?_
  obtain ⟨ps, ⟨g1, t1, cs1, fu1, p1, q1, _, _, _, _, ⟨g2, t2, cs2, fu2, p2, q2, _, _, _, _, ⟨g', t', cs, fuel, p, q, hg', ht', hvar, hd, _, _⟩, _⟩, _⟩, _⟩ := h
  obtain rfl := Option.some.inj (gPow.symm.trans hg')
  obtain rfl := Option.some.inj (gPowType.symm.trans ht')
  unfold Lib.TabIs
  rw [hvar, ← Lib.cells_of_tab Tryz.underlying278 Tryz.underlying168 cellsU cellsPow hd]

/-- A WORLD FOR THE WITNESS: the settled one, the tables holding what their initialisers lay. -/
def fillOf : DataW Unit → Array Value
  | .agg ds => (ds.map fun | .lit l => l.value | _ => default).toArray
  | _ => #[]
def fillAt (d : DataW Unit) : Obj → Obj
  | .cells _ t frozen => .cells (fillOf d) t frozen
  | o => o
noncomputable def laidWorld (os : Os) : World :=
  { World.holding Tryz.prog os ⟨#[], #[], []⟩ with heap := (((World.holding Tryz.prog os ⟨#[], #[], []⟩).heap.modify 2 (fillAt Rows.laid_internal_strconv_uint64pow10)).modify 4 (fillAt Rows.laid_math_bits_deBruijn32tab)).modify 5 (fillAt Rows.laid_math_bits_deBruijn64tab) }
theorem laid_met (os : Os) (args : Array Value) : laidMet Tryz.prog laid3 ((laidWorld os).forCall (fun _ _ => 0) ⟨#[], args, []⟩).memory :=
  laidMet_of_run' 8 (by kernel_rfl) (by kernel_rfl)
theorem i64_wf {n : Int} (h : (Lit.int IntKind.i64 n).wf = true) : I64 n := by
  simp [Lit.wf, IntKind.min, IntKind.max, IntKind.signed, IntKind.bits] at h
  exact ⟨by omega, by omega⟩
end Go.Proofs.YtepfmoaihhonlaaGreatDoor
