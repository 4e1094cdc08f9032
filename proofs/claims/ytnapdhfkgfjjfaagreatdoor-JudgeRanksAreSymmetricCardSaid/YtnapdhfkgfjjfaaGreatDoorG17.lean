import Derived.Test.YtnapdhfkgfjjfaaGreatDoorG16
import Derived.Test.YtnapdhfkgfjjfaaGreatDoorG9
/- Package dynamometerref0: Add. -/
namespace Go.Proofs.YtnapdhfkgfjjfaaGreatDoor
open Go Go.RowKit Go.Proofs

end Go.Proofs.YtnapdhfkgfjjfaaGreatDoor

/- Package dynamometerref0: Mul. -/
namespace Go.Proofs.YtnapdhfkgfjjfaaGreatDoor
open Go Go.RowKit Go.Proofs

end Go.Proofs.YtnapdhfkgfjjfaaGreatDoor
