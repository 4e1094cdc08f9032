import Derived.Test.YthfloagpmmohkaaGreatDoorRows
import Derived.Test.YthfloagpmmohkaaGreatDoorBuckMath
import Derived.Test.YthfloagpmmohkaaGreatDoorShelf
import Derived.Handy
import Derived.WalkSpells
import Derived.WalkLawsBesides
import Derived.Deep.QuietTactic
import Derived.BigQuiet
import Derived.Lib.Hide
import Derived.Test.YthfloagpmmohkaaGreatDoorMem
import Derived.Maps.Own
import Derived.Maps.OwnOps
import Derived.Maps.OwnSet
import Derived.Maps.RangeWalk
import Derived.Maps.AppendAt
/- The walks of the functions on buckets. -/
namespace Go.Proofs.YthfloagpmmohkaaGreatDoor
open Go.RowKit

end Go.Proofs.YthfloagpmmohkaaGreatDoor

/- slices.Insert of one element into a row of the call's own; (*sorted[int]).put. -/
namespace Go.Proofs.YthfloagpmmohkaaGreatDoor
open Go Go.RowKit Go.Proofs

end Go.Proofs.YthfloagpmmohkaaGreatDoor

/- (tally).histogram: what was counted, as a sorted list. -/
namespace Go.Proofs.YthfloagpmmohkaaGreatDoor
open Go Go.RowKit Go.Proofs Go.Maps

end Go.Proofs.YthfloagpmmohkaaGreatDoor

/- checkValues, of, Of. -/
namespace Go.Proofs.YthfloagpmmohkaaGreatDoor
open Go Go.RowKit Go.Proofs Go.Maps

end Go.Proofs.YthfloagpmmohkaaGreatDoor
