/- Package dynamometerref0: fractions: Minus, Plus, Less, Sign, Order, Floor. Printed by gen_frac.py. -/
import Derived.Test.YtnapdhfkgfjjfaaGreatDoorG20
namespace Go.Proofs.YtnapdhfkgfjjfaaGreatDoor
open Go Go.RowKit Go.Proofs

end Go.Proofs.YtnapdhfkgfjjfaaGreatDoor
