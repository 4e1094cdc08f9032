/- Plain arithmetic of buckets: no program in sight. -/
import Derived.Lib.BitFns
namespace Go.Proofs.YthfloagpmmohkaaGreatDoor
open Go

/-- half of 2^b -/
def hB (b : Int) : Int := 2 ^ (b.toNat - 1)
end Go.Proofs.YthfloagpmmohkaaGreatDoor
