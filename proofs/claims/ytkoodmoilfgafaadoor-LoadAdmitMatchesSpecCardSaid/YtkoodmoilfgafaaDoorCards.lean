/-
  DERIVED. GIVEN WITH THE SEED: THE CARDS: each row of YtkoodmoilfgafaaDoorRows.lean that lists a variable, with what it lists TIED to the program's text (the seventh form; the later family's looks); each row that meets fmt, with fmt's text TOLD by the authors' own Lean function (tested against real Go, not proved from fmt's source: count such statements apart). THE CARD IS WHAT COUNTS. Prove the row's statement (the work); the ties are given (YtkoodmoilfgafaaDoorTie.lean); close each card by the builder's one call (the guide's Derived/Test/ToyasCard.lean, 'card_holds'). Laid BY PROGRAM, IN A SANDBOX (cutbox-door.mjs). By AI agents, Wed Nov 11 2026. No macro, syntax, notation, axiom, sorry.
-/
import Derived.Test.YtkoodmoilfgafaaDoorRows
import GoSem.ClaimSeven
namespace Go.Proofs.YtkoodmoilfgafaaDoor
namespace Rows

/-- THE TIED CARD OF 'dynamometerlaw7.LoadArrivalsMatchSpec'. -/
def loadArrivalsMatchSpecCard : Claim7 := { stood := { row := loadArrivalsMatchSpecRow, standIns := [], harness := (true, "52be1997f888ec2b36cb32b127473fcf5db3855dc2bf58479469423b22069392"), looks := false }, kinds := [], alts := [], laidByText := true, laidKinds := [.data, .data, .data], laidTests := true, laidLooks := .later }
def LoadArrivalsMatchSpecCardSaid : Prop := Claim7.holds Tryd.pinned (.plain (OpenSpec.ofChange loadArrivalsMatchSpecSpec)) loadArrivalsMatchSpecCard

/-- THE TIED CARD OF 'dynamometerlaw7.LoadFitMatchesSpec'. -/
def loadFitMatchesSpecCard : Claim7 := { stood := { row := loadFitMatchesSpecRow, standIns := [], harness := (true, "52be1997f888ec2b36cb32b127473fcf5db3855dc2bf58479469423b22069392"), looks := false }, kinds := [], alts := [], laidByText := true, laidKinds := [.data, .data, .data], laidTests := true, laidLooks := .later }
def LoadFitMatchesSpecCardSaid : Prop := Claim7.holds Tryd.pinned (.plain (OpenSpec.ofChange loadFitMatchesSpecSpec)) loadFitMatchesSpecCard

/-- THE TIED CARD OF 'dynamometerlaw7.LoadAdmitMatchesSpec'. -/
def loadAdmitMatchesSpecCard : Claim7 := { stood := { row := loadAdmitMatchesSpecRow, standIns := [], harness := (true, "52be1997f888ec2b36cb32b127473fcf5db3855dc2bf58479469423b22069392"), looks := false }, kinds := [], alts := [], laidByText := true, laidKinds := [.data, .data, .data], laidTests := true, laidLooks := .later }
def LoadAdmitMatchesSpecCardSaid : Prop := Claim7.holds Tryd.pinned (.plain (OpenSpec.ofChange loadAdmitMatchesSpecSpec)) loadAdmitMatchesSpecCard

/-- THE TIED CARD OF 'dynamometerlaw7.LoadEditsMatchSpec'. -/
def loadEditsMatchSpecCard : Claim7 := { stood := { row := loadEditsMatchSpecRow, standIns := [], harness := (true, "52be1997f888ec2b36cb32b127473fcf5db3855dc2bf58479469423b22069392"), looks := false }, kinds := [], alts := [], laidByText := true, laidKinds := [.data, .data, .data], laidTests := true, laidLooks := .later }
def LoadEditsMatchSpecCardSaid : Prop := Claim7.holds Tryd.pinned (.plain (OpenSpec.ofChange loadEditsMatchSpecSpec)) loadEditsMatchSpecCard

/-- THE TIED CARD OF 'dynamometerlaw7.LoadPartsComeTogether'. -/
def loadPartsComeTogetherCard : Claim7 := { stood := { row := loadPartsComeTogetherRow, standIns := [], harness := (true, "52be1997f888ec2b36cb32b127473fcf5db3855dc2bf58479469423b22069392"), looks := false }, kinds := [], alts := [], laidByText := true, laidKinds := [.data, .data, .data], laidTests := true, laidLooks := .later }
def LoadPartsComeTogetherCardSaid : Prop := Claim7.holds Tryd.pinned (.plain (OpenSpec.ofChange loadPartsComeTogetherSpec)) loadPartsComeTogetherCard

/-- THE TIED CARD OF 'dynamometerlaw7.LoadListsMatchSpec'. -/
def loadListsMatchSpecCard : Claim7 := { stood := { row := loadListsMatchSpecRow, standIns := [], harness := (true, "52be1997f888ec2b36cb32b127473fcf5db3855dc2bf58479469423b22069392"), looks := false }, kinds := [], alts := [], laidByText := true, laidKinds := [.data, .data, .data], laidTests := true, laidLooks := .later }
def LoadListsMatchSpecCardSaid : Prop := Claim7.holds Tryd.pinned (.plain (OpenSpec.ofChange loadListsMatchSpecSpec)) loadListsMatchSpecCard

/-- THE SECOND FORM's CARD OF 'dynamometerlaw7.LoadArrivalsMatchSpec'. -/
def loadArrivalsMatchSpecUptoCard : Claim7 := { stood := { row := loadArrivalsMatchSpecUptoRow, standIns := [], harness := (true, "52be1997f888ec2b36cb32b127473fcf5db3855dc2bf58479469423b22069392"), looks := false }, kinds := [], alts := [], laidByText := true, laidKinds := [.data, .data, .data], laidTests := true, laidLooks := .later }
def LoadArrivalsMatchSpecUptoCardSaid : Prop := Claim7.holds Tryd.pinned (.plain (OpenSpec.upto loadArrivalsMatchSpecSpec)) loadArrivalsMatchSpecUptoCard

/-- THE SECOND FORM's CARD OF 'dynamometerlaw7.LoadFitMatchesSpec'. -/
def loadFitMatchesSpecUptoCard : Claim7 := { stood := { row := loadFitMatchesSpecUptoRow, standIns := [], harness := (true, "52be1997f888ec2b36cb32b127473fcf5db3855dc2bf58479469423b22069392"), looks := false }, kinds := [], alts := [], laidByText := true, laidKinds := [.data, .data, .data], laidTests := true, laidLooks := .later }
def LoadFitMatchesSpecUptoCardSaid : Prop := Claim7.holds Tryd.pinned (.plain (OpenSpec.upto loadFitMatchesSpecSpec)) loadFitMatchesSpecUptoCard

/-- THE SECOND FORM's CARD OF 'dynamometerlaw7.LoadAdmitMatchesSpec'. -/
def loadAdmitMatchesSpecUptoCard : Claim7 := { stood := { row := loadAdmitMatchesSpecUptoRow, standIns := [], harness := (true, "52be1997f888ec2b36cb32b127473fcf5db3855dc2bf58479469423b22069392"), looks := false }, kinds := [], alts := [], laidByText := true, laidKinds := [.data, .data, .data], laidTests := true, laidLooks := .later }
def LoadAdmitMatchesSpecUptoCardSaid : Prop := Claim7.holds Tryd.pinned (.plain (OpenSpec.upto loadAdmitMatchesSpecSpec)) loadAdmitMatchesSpecUptoCard

/-- THE SECOND FORM's CARD OF 'dynamometerlaw7.LoadEditsMatchSpec'. -/
def loadEditsMatchSpecUptoCard : Claim7 := { stood := { row := loadEditsMatchSpecUptoRow, standIns := [], harness := (true, "52be1997f888ec2b36cb32b127473fcf5db3855dc2bf58479469423b22069392"), looks := false }, kinds := [], alts := [], laidByText := true, laidKinds := [.data, .data, .data], laidTests := true, laidLooks := .later }
def LoadEditsMatchSpecUptoCardSaid : Prop := Claim7.holds Tryd.pinned (.plain (OpenSpec.upto loadEditsMatchSpecSpec)) loadEditsMatchSpecUptoCard

/-- THE SECOND FORM's CARD OF 'dynamometerlaw7.LoadPartsComeTogether'. -/
def loadPartsComeTogetherUptoCard : Claim7 := { stood := { row := loadPartsComeTogetherUptoRow, standIns := [], harness := (true, "52be1997f888ec2b36cb32b127473fcf5db3855dc2bf58479469423b22069392"), looks := false }, kinds := [], alts := [], laidByText := true, laidKinds := [.data, .data, .data], laidTests := true, laidLooks := .later }
def LoadPartsComeTogetherUptoCardSaid : Prop := Claim7.holds Tryd.pinned (.plain (OpenSpec.upto loadPartsComeTogetherSpec)) loadPartsComeTogetherUptoCard

/-- THE SECOND FORM's CARD OF 'dynamometerlaw7.LoadListsMatchSpec'. -/
def loadListsMatchSpecUptoCard : Claim7 := { stood := { row := loadListsMatchSpecUptoRow, standIns := [], harness := (true, "52be1997f888ec2b36cb32b127473fcf5db3855dc2bf58479469423b22069392"), looks := false }, kinds := [], alts := [], laidByText := true, laidKinds := [.data, .data, .data], laidTests := true, laidLooks := .later }
def LoadListsMatchSpecUptoCardSaid : Prop := Claim7.holds Tryd.pinned (.plain (OpenSpec.upto loadListsMatchSpecSpec)) loadListsMatchSpecUptoCard
end Rows
end Go.Proofs.YtkoodmoilfgafaaDoor
