/-
  DERIVED. GIVEN WITH THE SEED: THE CARDS: each row of YtgmbgclhljobaaaDoorRows.lean that lists a variable, with what it lists TIED to the program's text (the seventh form; the later family's looks); each row that meets fmt, with fmt's text TOLD by the authors' own Lean function (tested against real Go, not proved from fmt's source: count such statements apart). THE CARD IS WHAT COUNTS. Prove the row's statement (the work); the ties are given (YtgmbgclhljobaaaDoorTie.lean); close each card by the builder's one call (the guide's Derived/Test/ToyasCard.lean, 'card_holds'). Laid BY PROGRAM, IN A SANDBOX (cutbox-door.mjs). By AI agents, Wed Nov 11 2026. No macro, syntax, notation, axiom, sorry.
-/
import Derived.Test.YtgmbgclhljobaaaDoorRows
import GoSem.ClaimSeven
namespace Go.Proofs.YtgmbgclhljobaaaDoor
namespace Rows

/-- THE TIED CARD OF 'dynamometerlaw9.MeasureExpectedIsAStall'. -/
def measureExpectedIsAStallCard : Claim7 := { stood := { row := measureExpectedIsAStallRow, standIns := [], harness := (true, "48fc4b5b7afa5ae91950ef176e5aa53e80b524efd64e91863cb4687924c31f79"), looks := false }, kinds := [], alts := [], laidByText := true, laidKinds := [.data, .data, .data], laidTests := true, laidLooks := .later }
def MeasureExpectedIsAStallCardSaid : Prop := Claim7.holds Tryd.pinned (.plain (OpenSpec.ofChange measureExpectedIsAStallSpec)) measureExpectedIsAStallCard

/-- THE TIED CARD OF 'dynamometerlaw9.MeasureCoarseMatchesSpec'. -/
def measureCoarseMatchesSpecCard : Claim7 := { stood := { row := measureCoarseMatchesSpecRow, standIns := [], harness := (true, "48fc4b5b7afa5ae91950ef176e5aa53e80b524efd64e91863cb4687924c31f79"), looks := false }, kinds := [], alts := [], laidByText := true, laidKinds := [.data, .data, .data], laidTests := true, laidLooks := .later }
def MeasureCoarseMatchesSpecCardSaid : Prop := Claim7.holds Tryd.pinned (.plain (OpenSpec.ofChange measureCoarseMatchesSpecSpec)) measureCoarseMatchesSpecCard

/-- THE TIED CARD OF 'dynamometerlaw9.MeasureOfMatchesSpec'. -/
def measureOfMatchesSpecCard : Claim7 := { stood := { row := measureOfMatchesSpecRow, standIns := [], harness := (true, "48fc4b5b7afa5ae91950ef176e5aa53e80b524efd64e91863cb4687924c31f79"), looks := false }, kinds := [], alts := [], laidByText := true, laidKinds := [.data, .data, .data], laidTests := true, laidLooks := .later }
def MeasureOfMatchesSpecCardSaid : Prop := Claim7.holds Tryd.pinned (.plain (OpenSpec.ofChange measureOfMatchesSpecSpec)) measureOfMatchesSpecCard

/-- THE TIED CARD OF 'dynamometerlaw9.MeasureMergeIsTogether'. -/
def measureMergeIsTogetherCard : Claim7 := { stood := { row := measureMergeIsTogetherRow, standIns := [], harness := (true, "48fc4b5b7afa5ae91950ef176e5aa53e80b524efd64e91863cb4687924c31f79"), looks := false }, kinds := [], alts := [], laidByText := true, laidKinds := [.data, .data, .data], laidTests := true, laidLooks := .later }
def MeasureMergeIsTogetherCardSaid : Prop := Claim7.holds Tryd.pinned (.plain (OpenSpec.ofChange measureMergeIsTogetherSpec)) measureMergeIsTogetherCard

/-- THE TIED CARD OF 'dynamometerlaw9.MeasureMergeMatchesSpec'. -/
def measureMergeMatchesSpecCard : Claim7 := { stood := { row := measureMergeMatchesSpecRow, standIns := [], harness := (true, "48fc4b5b7afa5ae91950ef176e5aa53e80b524efd64e91863cb4687924c31f79"), looks := false }, kinds := [], alts := [], laidByText := true, laidKinds := [.data, .data, .data], laidTests := true, laidLooks := .later }
def MeasureMergeMatchesSpecCardSaid : Prop := Claim7.holds Tryd.pinned (.plain (OpenSpec.ofChange measureMergeMatchesSpecSpec)) measureMergeMatchesSpecCard

/-- THE TIED CARD OF 'dynamometerlaw9.MeasureExpectedMatchesSpec'. -/
def measureExpectedMatchesSpecCard : Claim7 := { stood := { row := measureExpectedMatchesSpecRow, standIns := [], harness := (true, "48fc4b5b7afa5ae91950ef176e5aa53e80b524efd64e91863cb4687924c31f79"), looks := false }, kinds := [], alts := [], laidByText := true, laidKinds := [.data, .data, .data], laidTests := true, laidLooks := .later }
def MeasureExpectedMatchesSpecCardSaid : Prop := Claim7.holds Tryd.pinned (.plain (OpenSpec.ofChange measureExpectedMatchesSpecSpec)) measureExpectedMatchesSpecCard

/-- THE TIED CARD OF 'dynamometerlaw9.MeasureBytesMatchSpec'. -/
def measureBytesMatchSpecCard : Claim7 := { stood := { row := measureBytesMatchSpecRow, standIns := [], harness := (true, "48fc4b5b7afa5ae91950ef176e5aa53e80b524efd64e91863cb4687924c31f79"), looks := false }, kinds := [], alts := [], laidByText := true, laidKinds := [.data, .data, .data], laidTests := true, laidLooks := .later }
def MeasureBytesMatchSpecCardSaid : Prop := Claim7.holds Tryd.pinned (.plain (OpenSpec.ofChange measureBytesMatchSpecSpec)) measureBytesMatchSpecCard

/-- THE TIED CARD OF 'dynamometerlaw9.MeasureSeriesMatchSpec'. -/
def measureSeriesMatchSpecCard : Claim7 := { stood := { row := measureSeriesMatchSpecRow, standIns := [], harness := (true, "48fc4b5b7afa5ae91950ef176e5aa53e80b524efd64e91863cb4687924c31f79"), looks := false }, kinds := [], alts := [], laidByText := true, laidKinds := [.data, .data, .data], laidTests := true, laidLooks := .later }
def MeasureSeriesMatchSpecCardSaid : Prop := Claim7.holds Tryd.pinned (.plain (OpenSpec.ofChange measureSeriesMatchSpecSpec)) measureSeriesMatchSpecCard

/-- THE SECOND FORM's CARD OF 'dynamometerlaw9.MeasureExpectedIsAStall'. -/
def measureExpectedIsAStallUptoCard : Claim7 := { stood := { row := measureExpectedIsAStallUptoRow, standIns := [], harness := (true, "48fc4b5b7afa5ae91950ef176e5aa53e80b524efd64e91863cb4687924c31f79"), looks := false }, kinds := [], alts := [], laidByText := true, laidKinds := [.data, .data, .data], laidTests := true, laidLooks := .later }
def MeasureExpectedIsAStallUptoCardSaid : Prop := Claim7.holds Tryd.pinned (.plain (OpenSpec.upto measureExpectedIsAStallSpec)) measureExpectedIsAStallUptoCard

/-- THE SECOND FORM's CARD OF 'dynamometerlaw9.MeasureCoarseMatchesSpec'. -/
def measureCoarseMatchesSpecUptoCard : Claim7 := { stood := { row := measureCoarseMatchesSpecUptoRow, standIns := [], harness := (true, "48fc4b5b7afa5ae91950ef176e5aa53e80b524efd64e91863cb4687924c31f79"), looks := false }, kinds := [], alts := [], laidByText := true, laidKinds := [.data, .data, .data], laidTests := true, laidLooks := .later }
def MeasureCoarseMatchesSpecUptoCardSaid : Prop := Claim7.holds Tryd.pinned (.plain (OpenSpec.upto measureCoarseMatchesSpecSpec)) measureCoarseMatchesSpecUptoCard

/-- THE SECOND FORM's CARD OF 'dynamometerlaw9.MeasureOfMatchesSpec'. -/
def measureOfMatchesSpecUptoCard : Claim7 := { stood := { row := measureOfMatchesSpecUptoRow, standIns := [], harness := (true, "48fc4b5b7afa5ae91950ef176e5aa53e80b524efd64e91863cb4687924c31f79"), looks := false }, kinds := [], alts := [], laidByText := true, laidKinds := [.data, .data, .data], laidTests := true, laidLooks := .later }
def MeasureOfMatchesSpecUptoCardSaid : Prop := Claim7.holds Tryd.pinned (.plain (OpenSpec.upto measureOfMatchesSpecSpec)) measureOfMatchesSpecUptoCard

/-- THE SECOND FORM's CARD OF 'dynamometerlaw9.MeasureMergeIsTogether'. -/
def measureMergeIsTogetherUptoCard : Claim7 := { stood := { row := measureMergeIsTogetherUptoRow, standIns := [], harness := (true, "48fc4b5b7afa5ae91950ef176e5aa53e80b524efd64e91863cb4687924c31f79"), looks := false }, kinds := [], alts := [], laidByText := true, laidKinds := [.data, .data, .data], laidTests := true, laidLooks := .later }
def MeasureMergeIsTogetherUptoCardSaid : Prop := Claim7.holds Tryd.pinned (.plain (OpenSpec.upto measureMergeIsTogetherSpec)) measureMergeIsTogetherUptoCard

/-- THE SECOND FORM's CARD OF 'dynamometerlaw9.MeasureMergeMatchesSpec'. -/
def measureMergeMatchesSpecUptoCard : Claim7 := { stood := { row := measureMergeMatchesSpecUptoRow, standIns := [], harness := (true, "48fc4b5b7afa5ae91950ef176e5aa53e80b524efd64e91863cb4687924c31f79"), looks := false }, kinds := [], alts := [], laidByText := true, laidKinds := [.data, .data, .data], laidTests := true, laidLooks := .later }
def MeasureMergeMatchesSpecUptoCardSaid : Prop := Claim7.holds Tryd.pinned (.plain (OpenSpec.upto measureMergeMatchesSpecSpec)) measureMergeMatchesSpecUptoCard

/-- THE SECOND FORM's CARD OF 'dynamometerlaw9.MeasureExpectedMatchesSpec'. -/
def measureExpectedMatchesSpecUptoCard : Claim7 := { stood := { row := measureExpectedMatchesSpecUptoRow, standIns := [], harness := (true, "48fc4b5b7afa5ae91950ef176e5aa53e80b524efd64e91863cb4687924c31f79"), looks := false }, kinds := [], alts := [], laidByText := true, laidKinds := [.data, .data, .data], laidTests := true, laidLooks := .later }
def MeasureExpectedMatchesSpecUptoCardSaid : Prop := Claim7.holds Tryd.pinned (.plain (OpenSpec.upto measureExpectedMatchesSpecSpec)) measureExpectedMatchesSpecUptoCard

/-- THE SECOND FORM's CARD OF 'dynamometerlaw9.MeasureBytesMatchSpec'. -/
def measureBytesMatchSpecUptoCard : Claim7 := { stood := { row := measureBytesMatchSpecUptoRow, standIns := [], harness := (true, "48fc4b5b7afa5ae91950ef176e5aa53e80b524efd64e91863cb4687924c31f79"), looks := false }, kinds := [], alts := [], laidByText := true, laidKinds := [.data, .data, .data], laidTests := true, laidLooks := .later }
def MeasureBytesMatchSpecUptoCardSaid : Prop := Claim7.holds Tryd.pinned (.plain (OpenSpec.upto measureBytesMatchSpecSpec)) measureBytesMatchSpecUptoCard

/-- THE SECOND FORM's CARD OF 'dynamometerlaw9.MeasureSeriesMatchSpec'. -/
def measureSeriesMatchSpecUptoCard : Claim7 := { stood := { row := measureSeriesMatchSpecUptoRow, standIns := [], harness := (true, "48fc4b5b7afa5ae91950ef176e5aa53e80b524efd64e91863cb4687924c31f79"), looks := false }, kinds := [], alts := [], laidByText := true, laidKinds := [.data, .data, .data], laidTests := true, laidLooks := .later }
def MeasureSeriesMatchSpecUptoCardSaid : Prop := Claim7.holds Tryd.pinned (.plain (OpenSpec.upto measureSeriesMatchSpecSpec)) measureSeriesMatchSpecUptoCard
end Rows
end Go.Proofs.YtgmbgclhljobaaaDoor
