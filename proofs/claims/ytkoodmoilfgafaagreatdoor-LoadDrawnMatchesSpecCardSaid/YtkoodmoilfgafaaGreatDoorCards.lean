/-
  DERIVED. GIVEN WITH THE SEED: THE CARDS: each row of YtkoodmoilfgafaaGreatDoorRows.lean that lists a variable, with what it lists TIED to the program's text (the seventh form; the later family's looks); each row that meets fmt, with fmt's text TOLD by the authors' own Lean function (tested against real Go, not proved from fmt's source: count such statements apart). THE CARD IS WHAT COUNTS. Prove the row's statement (the work); the ties are given (YtkoodmoilfgafaaGreatDoorTie.lean); close each card by the builder's one call (the guide's Derived/Test/ToyasCard.lean, 'card_holds'). Laid BY PROGRAM, IN A SANDBOX (cutbox-door.mjs). By AI agents, Wed Nov 11 2026. No macro, syntax, notation, axiom, sorry.
-/
import Derived.Test.YtkoodmoilfgafaaGreatDoorRows
import GoSem.ClaimSeven
namespace Go.Proofs.YtkoodmoilfgafaaGreatDoor
namespace Rows

/-- THE TIED CARD OF 'dynamometerlaw7.LoadLineMatchesSpec'. -/
def loadLineMatchesSpecCard : Claim7 := { stood := { row := loadLineMatchesSpecRow, standIns := [], harness := (true, "47e2799015aadd592704f2ece21a6d7310f88314182ed770bb82b6ef87b7e289"), looks := false }, kinds := [], alts := [], laidByText := true, laidKinds := [.data, .data, .data], laidTests := true, laidLooks := .later }
def LoadLineMatchesSpecCardSaid : Prop := Claim7.holds Tryz.pinned (.plain (OpenSpec.ofChange loadLineMatchesSpecSpec)) loadLineMatchesSpecCard

/-- THE TIED CARD OF 'dynamometerlaw7.LoadEditsKeepAreas'. -/
def loadEditsKeepAreasCard : Claim7 := { stood := { row := loadEditsKeepAreasRow, standIns := [], harness := (true, "47e2799015aadd592704f2ece21a6d7310f88314182ed770bb82b6ef87b7e289"), looks := false }, kinds := [], alts := [], laidByText := true, laidKinds := [.data, .data, .data], laidTests := true, laidLooks := .later }
def LoadEditsKeepAreasCardSaid : Prop := Claim7.holds Tryz.pinned (.plain (OpenSpec.ofChange loadEditsKeepAreasSpec)) loadEditsKeepAreasCard

/-- THE TIED CARD OF 'dynamometerlaw7.LoadDrawnMatchesSpec'. -/
def loadDrawnMatchesSpecCard : Claim7 := { stood := { row := loadDrawnMatchesSpecRow, standIns := [], harness := (true, "47e2799015aadd592704f2ece21a6d7310f88314182ed770bb82b6ef87b7e289"), looks := false }, kinds := [], alts := [], laidByText := true, laidKinds := [.data, .data, .data], laidTests := true, laidLooks := .later }
def LoadDrawnMatchesSpecCardSaid : Prop := Claim7.holds Tryz.pinned (.plain (OpenSpec.ofChange loadDrawnMatchesSpecSpec)) loadDrawnMatchesSpecCard

/-- THE SECOND FORM's CARD OF 'dynamometerlaw7.LoadLineMatchesSpec'. -/
def loadLineMatchesSpecUptoCard : Claim7 := { stood := { row := loadLineMatchesSpecUptoRow, standIns := [], harness := (true, "47e2799015aadd592704f2ece21a6d7310f88314182ed770bb82b6ef87b7e289"), looks := false }, kinds := [], alts := [], laidByText := true, laidKinds := [.data, .data, .data], laidTests := true, laidLooks := .later }
def LoadLineMatchesSpecUptoCardSaid : Prop := Claim7.holds Tryz.pinned (.plain (OpenSpec.upto loadLineMatchesSpecSpec)) loadLineMatchesSpecUptoCard

/-- THE SECOND FORM's CARD OF 'dynamometerlaw7.LoadEditsKeepAreas'. -/
def loadEditsKeepAreasUptoCard : Claim7 := { stood := { row := loadEditsKeepAreasUptoRow, standIns := [], harness := (true, "47e2799015aadd592704f2ece21a6d7310f88314182ed770bb82b6ef87b7e289"), looks := false }, kinds := [], alts := [], laidByText := true, laidKinds := [.data, .data, .data], laidTests := true, laidLooks := .later }
def LoadEditsKeepAreasUptoCardSaid : Prop := Claim7.holds Tryz.pinned (.plain (OpenSpec.upto loadEditsKeepAreasSpec)) loadEditsKeepAreasUptoCard

/-- THE SECOND FORM's CARD OF 'dynamometerlaw7.LoadDrawnMatchesSpec'. -/
def loadDrawnMatchesSpecUptoCard : Claim7 := { stood := { row := loadDrawnMatchesSpecUptoRow, standIns := [], harness := (true, "47e2799015aadd592704f2ece21a6d7310f88314182ed770bb82b6ef87b7e289"), looks := false }, kinds := [], alts := [], laidByText := true, laidKinds := [.data, .data, .data], laidTests := true, laidLooks := .later }
def LoadDrawnMatchesSpecUptoCardSaid : Prop := Claim7.holds Tryz.pinned (.plain (OpenSpec.upto loadDrawnMatchesSpecSpec)) loadDrawnMatchesSpecUptoCard
end Rows
end Go.Proofs.YtkoodmoilfgafaaGreatDoor
