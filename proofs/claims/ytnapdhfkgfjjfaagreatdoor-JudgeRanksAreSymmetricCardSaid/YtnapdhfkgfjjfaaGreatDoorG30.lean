import Derived.Test.YtnapdhfkgfjjfaaGreatDoorG2
import Derived.Test.YtnapdhfkgfjjfaaGreatDoorShelf
import Derived.Test.YtnapdhfkgfjjfaaGreatDoorProg
import Derived.Handy
import Derived.WalkSpells
import Derived.WalkLawsBesides
import Derived.Deep.QuietTactic
import Derived.BigQuiet
import Derived.Laws.BytesString
import Derived.Lib.ItoaLen
import Derived.Lib.SlBytesRow
import Derived.Lib.BufferRead
import Derived.Lib.AppendIntMem
import Derived.Test.YtnapdhfkgfjjfaaGreatDoorShelfB
import Derived.Test.YtnapdhfkgfjjfaaGreatDoorRDivMod
import Derived.Test.YtnapdhfkgfjjfaaGreatDoorG1
import Derived.Test.YtnapdhfkgfjjfaaGreatDoorG27
import Derived.Deep.RegionHeld3
/- The table of strconv's digits in memory. -/
namespace Go.Proofs.YtnapdhfkgfjjfaaGreatDoor
open Go Go.RowKit Go.Proofs Go.Maps

/-- the table that AppendInt reads, kept by whatever leaves the blocks below B alone -/
def Tab (B : Nat) (w : World) : Prop := Lib.TabBelow Tryz.prog B w "internal/strconv.uint64pow10" .u64 Lib.pow10Tab
theorem Tab.on {B : Nat} {w w' : World} (h : Tab B w) (hb : Below B w w') : Tab B w' := Lib.TabBelow.on h hb
theorem Tab.mono {B B' : Nat} {w : World} (h : Tab B w) (hB : B ≤ B') : Tab B' w := fun w' hb => h w' (hb.mono hB)

end Go.Proofs.YtnapdhfkgfjjfaaGreatDoor

/- Package dynamometerref0: Text. -/
namespace Go.Proofs.YtnapdhfkgfjjfaaGreatDoor
open Go Go.RowKit Go.Proofs

end Go.Proofs.YtnapdhfkgfjjfaaGreatDoor

/- Package dynamometerref0: Ratio. -/
namespace Go.Proofs.YtnapdhfkgfjjfaaGreatDoor
open Go Go.RowKit Go.Proofs

def RBox (w : World) (B : Nat) : Prop := w.heap[B]? = some (.cells #[.string ⟨#[]⟩, .string ⟨#[]⟩] 31 (0, 0))
theorem RBox.on {w w' : World} {B : Nat} (h : RBox w B) (hb : Below w.heap.size w w') : RBox w' B := (hb.block B (heap_lt h)).trans h
theorem RBox.facts {w : World} {B : Nat} (h : RBox w B) : w.cell? ⟨B, 0, none⟩ = some (.string ⟨#[]⟩) ∧ w.cell? ⟨B, 1, none⟩ = some (.string ⟨#[]⟩) ∧ w.frozen? ⟨B, 0, none⟩ = false ∧ w.frozen? ⟨B, 1, none⟩ = false ∧ B < w.heap.size :=
  ⟨by rw [cellsAt h]; rfl, by rw [cellsAt h]; rfl, frozenAt h 0, frozenAt h 1, heap_lt h⟩
end Go.Proofs.YtnapdhfkgfjjfaaGreatDoor

/- Package dynamometerref0: Ratio, with what it says of the digits. -/
namespace Go.Proofs.YtnapdhfkgfjjfaaGreatDoor
open Go Go.RowKit Go.Proofs

end Go.Proofs.YtnapdhfkgfjjfaaGreatDoor
