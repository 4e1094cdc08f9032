import Derived.Test.YtnapdhfkgfjjfaaGreatDoorFracPlus
import Derived.Test.YtnapdhfkgfjjfaaGreatDoorG16
import Derived.Test.YtnapdhfkgfjjfaaGreatDoorG0
import Derived.WalkSpells
import Derived.WalkLawsBesides
import Derived.Deep.QuietTactic
import Derived.BigQuiet
import Derived.Handy
import Derived.Test.YtnapdhfkgfjjfaaGreatDoorG15
/- How large the parts of fractions can be: plain. -/
namespace Go.Proofs.YtnapdhfkgfjjfaaGreatDoor

end Go.Proofs.YtnapdhfkgfjjfaaGreatDoor

/- ref0.Digits: the number with these digits. -/
namespace Go.Proofs.YtnapdhfkgfjjfaaGreatDoor
open Go Go.RowKit Go.Proofs

end Go.Proofs.YtnapdhfkgfjjfaaGreatDoor

/- ref0.FromRatio. Printed by gen_fromr.py. -/
namespace Go.Proofs.YtnapdhfkgfjjfaaGreatDoor
open Go Go.RowKit Go.Proofs

end Go.Proofs.YtnapdhfkgfjjfaaGreatDoor
