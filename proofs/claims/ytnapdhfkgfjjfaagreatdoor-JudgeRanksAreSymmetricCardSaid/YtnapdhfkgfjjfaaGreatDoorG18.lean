import Derived.Test.YtnapdhfkgfjjfaaGreatDoorG16
import Derived.Test.YtnapdhfkgfjjfaaGreatDoorG2
import Derived.Laws.AppendOwn
import Derived.Laws.AppendOwnNone
/- Package dynamometerref0: Sub. -/
namespace Go.Proofs.YtnapdhfkgfjjfaaGreatDoor
open Go Go.RowKit Go.Proofs

end Go.Proofs.YtnapdhfkgfjjfaaGreatDoor

/- Division digit by digit, in plain Lean: base 10000. -/
namespace Go.Proofs.YtnapdhfkgfjjfaaGreatDoor

end Go.Proofs.YtnapdhfkgfjjfaaGreatDoor

/- append of a slice that reads as cells, nil let in. -/
namespace Go.Proofs.YtnapdhfkgfjjfaaGreatDoor
open Go Go.RowKit Go.Proofs

end Go.Proofs.YtnapdhfkgfjjfaaGreatDoor
