/- Package dynamometerref0: fractions: Minus, Plus, Less, Sign, Order, Floor. Printed by gen_frac.py. -/
import Derived.Test.YtnpfdelklolchaaGreatDoorG15
namespace Go.Proofs.YtnpfdelklolchaaGreatDoor
open Go Go.RowKit Go.Proofs

theorem two_on {w : World} (X Y : Obj) : Below w.heap.size w ((w.alloc X).alloc Y) := ((Below.refl _ w).alloc (Nat.le_refl _) X).alloc (by simp) Y
end Go.Proofs.YtnpfdelklolchaaGreatDoor
