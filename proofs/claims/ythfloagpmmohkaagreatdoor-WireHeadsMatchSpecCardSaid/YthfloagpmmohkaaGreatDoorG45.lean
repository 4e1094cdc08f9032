import Derived.Test.YthfloagpmmohkaaGreatDoorG44
import Derived.Test.YthfloagpmmohkaaGreatDoorG42
import Derived.Deep.SlicePairs
import Derived.Lib.SmallJoins
import Derived.SizedLaws
/- Check and total, of the program and of the reference. -/
namespace Go.Proofs.YthfloagpmmohkaaGreatDoor
open Go Go.RowKit Go.Proofs Go.Maps

end Go.Proofs.YthfloagpmmohkaaGreatDoor

/- Arguments of a law, opened: places in memory, a slice of integers. -/
namespace Go.Proofs.YthfloagpmmohkaaGreatDoor
open Go Go.ChangeShapes Go.WideShapes Go.ChangeAt Go.RowKit Go.Deep Go.Joins

theorem spot_none {w : World} {a : Addr} {v : Value} (h : w.cell? a = some v) : a.spot = none := by
  unfold World.cell? at h
  split at h
  · split at h
    · cases h
    · rename_i hs; simpa using hs
  · cases h
theorem add_at (a : Addr) (h : a.spot = none) (i : Nat) : a.add i = ⟨a.block, a.off + i, none⟩ := by
  unfold Addr.add
  split
  · rename_i e; subst e; cases a; simp_all
  · rfl

section
variable {H : Type} {enc : TypeId × Value → H} {W : World} {base : Nat}
end
end Go.Proofs.YthfloagpmmohkaaGreatDoor
