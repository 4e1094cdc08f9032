/-
  DERIVED. GIVEN WITH THE SEED: THE CARDS: each row of YthfloagpmmohkaaGreatDoorRows.lean that lists a variable, with what it lists TIED to the program's text (the seventh form; the later family's looks); each row that meets fmt, with fmt's text TOLD by the authors' own Lean function (tested against real Go, not proved from fmt's source: count such statements apart). THE CARD IS WHAT COUNTS. Prove the row's statement (the work); the ties are given (YthfloagpmmohkaaGreatDoorTie.lean); close each card by the builder's one call (the guide's Derived/Test/ToyasCard.lean, 'card_holds'). Laid BY PROGRAM, IN A SANDBOX (cutbox-door.mjs). By AI agents, Wed Nov 11 2026. No macro, syntax, notation, axiom, sorry.
-/
import Derived.Test.YthfloagpmmohkaaGreatDoorRows
import GoSem.ClaimSeven
namespace Go.Proofs.YthfloagpmmohkaaGreatDoor
namespace Rows

/-- THE TIED CARD OF 'dynamometerlaw2.WireHeadsMatchSpec'. -/
def wireHeadsMatchSpecCard : Claim7 := { stood := { row := wireHeadsMatchSpecRow, standIns := [], harness := (true, "fe3f0f701026767363cd1bc1b16dad9355ee396471d2c49934bad03e762daae4"), looks := false }, kinds := [], alts := [], laidByText := true, laidKinds := [.data, .data, .data, .data, .pinned], laidTests := true, laidLooks := .later }
def WireHeadsMatchSpecCardSaid : Prop := Claim7.holds Tryz.pinned (.plain (OpenSpec.ofChange wireHeadsMatchSpecSpec)) wireHeadsMatchSpecCard

/-- THE TIED CARD OF 'dynamometerlaw2.WirePrintMatchesSpec'. -/
def wirePrintMatchesSpecCard : Claim7 := { stood := { row := wirePrintMatchesSpecRow, standIns := [], harness := (true, "fe3f0f701026767363cd1bc1b16dad9355ee396471d2c49934bad03e762daae4"), looks := false }, kinds := [], alts := [], laidByText := true, laidKinds := [.data, .data, .data, .data, .pinned], laidTests := true, laidLooks := .later }
def WirePrintMatchesSpecCardSaid : Prop := Claim7.holds Tryz.pinned (.plain (OpenSpec.ofChange wirePrintMatchesSpecSpec)) wirePrintMatchesSpecCard

/-- THE TIED CARD OF 'dynamometerlaw2.WireReaderReadsAtOnce'. -/
def wireReaderReadsAtOnceCard : Claim7 := { stood := { row := wireReaderReadsAtOnceRow, standIns := [], harness := (true, "fe3f0f701026767363cd1bc1b16dad9355ee396471d2c49934bad03e762daae4"), looks := false }, kinds := [], alts := [], laidByText := true, laidKinds := [.data, .data, .data, .data, .pinned], laidTests := true, laidLooks := .later }
def WireReaderReadsAtOnceCardSaid : Prop := Claim7.holds Tryz.pinned (.plain (OpenSpec.ofChange wireReaderReadsAtOnceSpec)) wireReaderReadsAtOnceCard

/-- THE TIED CARD OF 'dynamometerlaw2.WireEscapeMatchesSpec'. -/
def wireEscapeMatchesSpecCard : Claim7 := { stood := { row := wireEscapeMatchesSpecRow, standIns := [], harness := (true, "fe3f0f701026767363cd1bc1b16dad9355ee396471d2c49934bad03e762daae4"), looks := false }, kinds := [], alts := [], laidByText := true, laidKinds := [.data, .data, .data, .data, .pinned], laidTests := true, laidLooks := .later }
def WireEscapeMatchesSpecCardSaid : Prop := Claim7.holds Tryz.pinned (.plain (OpenSpec.ofChange wireEscapeMatchesSpecSpec)) wireEscapeMatchesSpecCard

/-- THE TIED CARD OF 'dynamometerlaw2.WireFormMatchesSpec'. -/
def wireFormMatchesSpecCard : Claim7 := { stood := { row := wireFormMatchesSpecRow, standIns := [], harness := (true, "fe3f0f701026767363cd1bc1b16dad9355ee396471d2c49934bad03e762daae4"), looks := false }, kinds := [], alts := [], laidByText := true, laidKinds := [.data, .data, .data, .data, .pinned], laidTests := true, laidLooks := .later }
def WireFormMatchesSpecCardSaid : Prop := Claim7.holds Tryz.pinned (.plain (OpenSpec.ofChange wireFormMatchesSpecSpec)) wireFormMatchesSpecCard

/-- THE SECOND FORM's CARD OF 'dynamometerlaw2.WireHeadsMatchSpec'. -/
def wireHeadsMatchSpecUptoCard : Claim7 := { stood := { row := wireHeadsMatchSpecUptoRow, standIns := [], harness := (true, "fe3f0f701026767363cd1bc1b16dad9355ee396471d2c49934bad03e762daae4"), looks := false }, kinds := [], alts := [], laidByText := true, laidKinds := [.data, .data, .data, .data, .pinned], laidTests := true, laidLooks := .later }
def WireHeadsMatchSpecUptoCardSaid : Prop := Claim7.holds Tryz.pinned (.plain (OpenSpec.upto wireHeadsMatchSpecSpec)) wireHeadsMatchSpecUptoCard

/-- THE SECOND FORM's CARD OF 'dynamometerlaw2.WirePrintMatchesSpec'. -/
def wirePrintMatchesSpecUptoCard : Claim7 := { stood := { row := wirePrintMatchesSpecUptoRow, standIns := [], harness := (true, "fe3f0f701026767363cd1bc1b16dad9355ee396471d2c49934bad03e762daae4"), looks := false }, kinds := [], alts := [], laidByText := true, laidKinds := [.data, .data, .data, .data, .pinned], laidTests := true, laidLooks := .later }
def WirePrintMatchesSpecUptoCardSaid : Prop := Claim7.holds Tryz.pinned (.plain (OpenSpec.upto wirePrintMatchesSpecSpec)) wirePrintMatchesSpecUptoCard

/-- THE SECOND FORM's CARD OF 'dynamometerlaw2.WireReaderReadsAtOnce'. -/
def wireReaderReadsAtOnceUptoCard : Claim7 := { stood := { row := wireReaderReadsAtOnceUptoRow, standIns := [], harness := (true, "fe3f0f701026767363cd1bc1b16dad9355ee396471d2c49934bad03e762daae4"), looks := false }, kinds := [], alts := [], laidByText := true, laidKinds := [.data, .data, .data, .data, .pinned], laidTests := true, laidLooks := .later }
def WireReaderReadsAtOnceUptoCardSaid : Prop := Claim7.holds Tryz.pinned (.plain (OpenSpec.upto wireReaderReadsAtOnceSpec)) wireReaderReadsAtOnceUptoCard

/-- THE SECOND FORM's CARD OF 'dynamometerlaw2.WireEscapeMatchesSpec'. -/
def wireEscapeMatchesSpecUptoCard : Claim7 := { stood := { row := wireEscapeMatchesSpecUptoRow, standIns := [], harness := (true, "fe3f0f701026767363cd1bc1b16dad9355ee396471d2c49934bad03e762daae4"), looks := false }, kinds := [], alts := [], laidByText := true, laidKinds := [.data, .data, .data, .data, .pinned], laidTests := true, laidLooks := .later }
def WireEscapeMatchesSpecUptoCardSaid : Prop := Claim7.holds Tryz.pinned (.plain (OpenSpec.upto wireEscapeMatchesSpecSpec)) wireEscapeMatchesSpecUptoCard

/-- THE SECOND FORM's CARD OF 'dynamometerlaw2.WireFormMatchesSpec'. -/
def wireFormMatchesSpecUptoCard : Claim7 := { stood := { row := wireFormMatchesSpecUptoRow, standIns := [], harness := (true, "fe3f0f701026767363cd1bc1b16dad9355ee396471d2c49934bad03e762daae4"), looks := false }, kinds := [], alts := [], laidByText := true, laidKinds := [.data, .data, .data, .data, .pinned], laidTests := true, laidLooks := .later }
def WireFormMatchesSpecUptoCardSaid : Prop := Claim7.holds Tryz.pinned (.plain (OpenSpec.upto wireFormMatchesSpecSpec)) wireFormMatchesSpecUptoCard
end Rows
end Go.Proofs.YthfloagpmmohkaaGreatDoor
