/-
  DERIVED. GIVEN WITH THE SEED: THE CARDS: each row of YtepfmoaihhonlaaGreatDoorRows.lean that lists a variable, with what it lists TIED to the program's text (the seventh form; the later family's looks); each row that meets fmt, with fmt's text TOLD by the authors' own Lean function (tested against real Go, not proved from fmt's source: count such statements apart). THE CARD IS WHAT COUNTS. Prove the row's statement (the work); the ties are given (YtepfmoaihhonlaaGreatDoorTie.lean); close each card by the builder's one call (the guide's Derived/Test/ToyasCard.lean, 'card_holds'). Laid BY PROGRAM, IN A SANDBOX (cutbox-door.mjs). By AI agents, Wed Nov 11 2026. No macro, syntax, notation, axiom, sorry.
-/
import Derived.Test.YtepfmoaihhonlaaGreatDoorRows
import GoSem.ClaimSeven
namespace Go.Proofs.YtepfmoaihhonlaaGreatDoor
namespace Rows

/-- THE TIED CARD OF 'dynamometerlaw7.LoadLineMatchesSpec'. -/
def loadLineMatchesSpecCard : Claim7 := { stood := { row := loadLineMatchesSpecRow, standIns := [], harness := (true, "89a92fffdb62820fee232733fd7400227dfaeffdb2c2de69db77fdb8db807177"), looks := false }, kinds := [], alts := [], laidByText := true, laidKinds := [.data, .data, .data], laidTests := true, laidLooks := .later }
def LoadLineMatchesSpecCardSaid : Prop := Claim7.holds Tryz.pinned (.plain (OpenSpec.ofChange loadLineMatchesSpecSpec)) loadLineMatchesSpecCard

/-- THE TIED CARD OF 'dynamometerlaw7.LoadEditsKeepAreas'. -/
def loadEditsKeepAreasCard : Claim7 := { stood := { row := loadEditsKeepAreasRow, standIns := [], harness := (true, "89a92fffdb62820fee232733fd7400227dfaeffdb2c2de69db77fdb8db807177"), looks := false }, kinds := [], alts := [], laidByText := true, laidKinds := [.data, .data, .data], laidTests := true, laidLooks := .later }
def LoadEditsKeepAreasCardSaid : Prop := Claim7.holds Tryz.pinned (.plain (OpenSpec.ofChange loadEditsKeepAreasSpec)) loadEditsKeepAreasCard

/-- THE TIED CARD OF 'dynamometerlaw9.MeasureCompareMatchesSpec'. -/
def measureCompareMatchesSpecCard : Claim7 := { stood := { row := measureCompareMatchesSpecRow, standIns := [], harness := (true, "89a92fffdb62820fee232733fd7400227dfaeffdb2c2de69db77fdb8db807177"), looks := false }, kinds := [], alts := [], laidByText := true, laidKinds := [.data, .data, .data], laidTests := true, laidLooks := .later }
def MeasureCompareMatchesSpecCardSaid : Prop := Claim7.holds Tryz.pinned (.plain (OpenSpec.ofChange measureCompareMatchesSpecSpec)) measureCompareMatchesSpecCard

/-- THE TIED CARD OF 'dynamometerlaw9.MeasureQuantilesMatchSpec'. -/
def measureQuantilesMatchSpecCard : Claim7 := { stood := { row := measureQuantilesMatchSpecRow, standIns := [], harness := (true, "89a92fffdb62820fee232733fd7400227dfaeffdb2c2de69db77fdb8db807177"), looks := false }, kinds := [], alts := [], laidByText := true, laidKinds := [.data, .data, .data], laidTests := true, laidLooks := .later }
def MeasureQuantilesMatchSpecCardSaid : Prop := Claim7.holds Tryz.pinned (.plain (OpenSpec.ofChange measureQuantilesMatchSpecSpec)) measureQuantilesMatchSpecCard

/-- THE TIED CARD OF 'dynamometerlaw9.MeasureSamplesMatchSpec'. -/
def measureSamplesMatchSpecCard : Claim7 := { stood := { row := measureSamplesMatchSpecRow, standIns := [], harness := (true, "89a92fffdb62820fee232733fd7400227dfaeffdb2c2de69db77fdb8db807177"), looks := false }, kinds := [], alts := [], laidByText := true, laidKinds := [.data, .data, .data], laidTests := true, laidLooks := .later }
def MeasureSamplesMatchSpecCardSaid : Prop := Claim7.holds Tryz.pinned (.plain (OpenSpec.ofChange measureSamplesMatchSpecSpec)) measureSamplesMatchSpecCard

/-- THE SECOND FORM's CARD OF 'dynamometerlaw7.LoadLineMatchesSpec'. -/
def loadLineMatchesSpecUptoCard : Claim7 := { stood := { row := loadLineMatchesSpecUptoRow, standIns := [], harness := (true, "89a92fffdb62820fee232733fd7400227dfaeffdb2c2de69db77fdb8db807177"), looks := false }, kinds := [], alts := [], laidByText := true, laidKinds := [.data, .data, .data], laidTests := true, laidLooks := .later }
def LoadLineMatchesSpecUptoCardSaid : Prop := Claim7.holds Tryz.pinned (.plain (OpenSpec.upto loadLineMatchesSpecSpec)) loadLineMatchesSpecUptoCard

/-- THE SECOND FORM's CARD OF 'dynamometerlaw7.LoadEditsKeepAreas'. -/
def loadEditsKeepAreasUptoCard : Claim7 := { stood := { row := loadEditsKeepAreasUptoRow, standIns := [], harness := (true, "89a92fffdb62820fee232733fd7400227dfaeffdb2c2de69db77fdb8db807177"), looks := false }, kinds := [], alts := [], laidByText := true, laidKinds := [.data, .data, .data], laidTests := true, laidLooks := .later }
def LoadEditsKeepAreasUptoCardSaid : Prop := Claim7.holds Tryz.pinned (.plain (OpenSpec.upto loadEditsKeepAreasSpec)) loadEditsKeepAreasUptoCard

/-- THE SECOND FORM's CARD OF 'dynamometerlaw9.MeasureCompareMatchesSpec'. -/
def measureCompareMatchesSpecUptoCard : Claim7 := { stood := { row := measureCompareMatchesSpecUptoRow, standIns := [], harness := (true, "89a92fffdb62820fee232733fd7400227dfaeffdb2c2de69db77fdb8db807177"), looks := false }, kinds := [], alts := [], laidByText := true, laidKinds := [.data, .data, .data], laidTests := true, laidLooks := .later }
def MeasureCompareMatchesSpecUptoCardSaid : Prop := Claim7.holds Tryz.pinned (.plain (OpenSpec.upto measureCompareMatchesSpecSpec)) measureCompareMatchesSpecUptoCard

/-- THE SECOND FORM's CARD OF 'dynamometerlaw9.MeasureQuantilesMatchSpec'. -/
def measureQuantilesMatchSpecUptoCard : Claim7 := { stood := { row := measureQuantilesMatchSpecUptoRow, standIns := [], harness := (true, "89a92fffdb62820fee232733fd7400227dfaeffdb2c2de69db77fdb8db807177"), looks := false }, kinds := [], alts := [], laidByText := true, laidKinds := [.data, .data, .data], laidTests := true, laidLooks := .later }
def MeasureQuantilesMatchSpecUptoCardSaid : Prop := Claim7.holds Tryz.pinned (.plain (OpenSpec.upto measureQuantilesMatchSpecSpec)) measureQuantilesMatchSpecUptoCard

/-- THE SECOND FORM's CARD OF 'dynamometerlaw9.MeasureSamplesMatchSpec'. -/
def measureSamplesMatchSpecUptoCard : Claim7 := { stood := { row := measureSamplesMatchSpecUptoRow, standIns := [], harness := (true, "89a92fffdb62820fee232733fd7400227dfaeffdb2c2de69db77fdb8db807177"), looks := false }, kinds := [], alts := [], laidByText := true, laidKinds := [.data, .data, .data], laidTests := true, laidLooks := .later }
def MeasureSamplesMatchSpecUptoCardSaid : Prop := Claim7.holds Tryz.pinned (.plain (OpenSpec.upto measureSamplesMatchSpecSpec)) measureSamplesMatchSpecUptoCard
end Rows
end Go.Proofs.YtepfmoaihhonlaaGreatDoor
