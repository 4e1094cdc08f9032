/- Contracts of library functions at this dump, as the kit's lay-shelf has written them, that the first shelf lacks. -/
import Derived.Test.YtnpfdelklolchaaGreatDoorShelf

namespace Go.Proofs
open Go.Shelf
end Go.Proofs
