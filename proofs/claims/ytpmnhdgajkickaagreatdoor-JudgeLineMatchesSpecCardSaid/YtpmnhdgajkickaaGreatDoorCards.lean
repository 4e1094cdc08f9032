/-
  DERIVED. GIVEN WITH THE SEED: THE CARDS: each row of YtpmnhdgajkickaaGreatDoorRows.lean that lists a variable, with what it lists TIED to the program's text (the seventh form; the later family's looks); each row that meets fmt, with fmt's text TOLD by the authors' own Lean function (tested against real Go, not proved from fmt's source: count such statements apart). THE CARD IS WHAT COUNTS. Prove the row's statement (the work); the ties are given (YtpmnhdgajkickaaGreatDoorTie.lean); close each card by the builder's one call (the guide's Derived/Test/ToyasCard.lean, 'card_holds'). Laid BY PROGRAM, IN A SANDBOX (cutbox-door.mjs). By AI agents, Wed Nov 11 2026. No macro, syntax, notation, axiom, sorry.
-/
import Derived.Test.YtpmnhdgajkickaaGreatDoorRows
import GoSem.ClaimSeven
namespace Go.Proofs.YtpmnhdgajkickaaGreatDoor
namespace Rows

/-- THE TIED CARD OF 'dynamometerlaw10.JudgeIntervalMatchesSpec'. -/
def judgeIntervalMatchesSpecCard : Claim7 := { stood := { row := judgeIntervalMatchesSpecRow, standIns := [], harness := (true, "20442d9cb69799e7ee11eac5b64ea2dfbb2d0b5b047c13c1e8a029bb37c4ae4b"), looks := true }, kinds := [], alts := [], laidByText := true, laidKinds := [.data, .data, .data, .data, .sentinel, .sentinel, .pinned], laidTests := true, laidLooks := .later }
def JudgeIntervalMatchesSpecCardSaid : Prop := Claim7.holds Tryz.pinned (.plain (OpenSpec.ofChange judgeIntervalMatchesSpecSpec)) judgeIntervalMatchesSpecCard

/-- THE TIED CARD OF 'dynamometerlaw10.JudgeErlangGoesOn'. -/
def judgeErlangGoesOnCard : Claim7 := { stood := { row := judgeErlangGoesOnRow, standIns := [], harness := (true, "20442d9cb69799e7ee11eac5b64ea2dfbb2d0b5b047c13c1e8a029bb37c4ae4b"), looks := true }, kinds := [], alts := [], laidByText := true, laidKinds := [.data, .data, .data, .data, .sentinel, .sentinel, .pinned], laidTests := true, laidLooks := .later }
def JudgeErlangGoesOnCardSaid : Prop := Claim7.holds Tryz.pinned (.plain (OpenSpec.ofChange judgeErlangGoesOnSpec)) judgeErlangGoesOnCard

/-- THE TIED CARD OF 'dynamometerlaw10.JudgeErlangMatchesSpec'. -/
def judgeErlangMatchesSpecCard : Claim7 := { stood := { row := judgeErlangMatchesSpecRow, standIns := [], harness := (true, "20442d9cb69799e7ee11eac5b64ea2dfbb2d0b5b047c13c1e8a029bb37c4ae4b"), looks := true }, kinds := [], alts := [], laidByText := true, laidKinds := [.data, .data, .data, .data, .sentinel, .sentinel, .pinned], laidTests := true, laidLooks := .later }
def JudgeErlangMatchesSpecCardSaid : Prop := Claim7.holds Tryz.pinned (.plain (OpenSpec.ofChange judgeErlangMatchesSpecSpec)) judgeErlangMatchesSpecCard

/-- THE TIED CARD OF 'dynamometerlaw10.JudgeLineMatchesSpec'. -/
def judgeLineMatchesSpecCard : Claim7 := { stood := { row := judgeLineMatchesSpecRow, standIns := [], harness := (true, "20442d9cb69799e7ee11eac5b64ea2dfbb2d0b5b047c13c1e8a029bb37c4ae4b"), looks := true }, kinds := [], alts := [], laidByText := true, laidKinds := [.data, .data, .data, .data, .sentinel, .sentinel, .pinned], laidTests := true, laidLooks := .later }
def JudgeLineMatchesSpecCardSaid : Prop := Claim7.holds Tryz.pinned (.plain (OpenSpec.ofChange judgeLineMatchesSpecSpec)) judgeLineMatchesSpecCard

/-- THE SECOND FORM's CARD OF 'dynamometerlaw10.JudgeIntervalMatchesSpec'. -/
def judgeIntervalMatchesSpecUptoCard : Claim7 := { stood := { row := judgeIntervalMatchesSpecUptoRow, standIns := [], harness := (true, "20442d9cb69799e7ee11eac5b64ea2dfbb2d0b5b047c13c1e8a029bb37c4ae4b"), looks := true }, kinds := [], alts := [], laidByText := true, laidKinds := [.data, .data, .data, .data, .sentinel, .sentinel, .pinned], laidTests := true, laidLooks := .later }
def JudgeIntervalMatchesSpecUptoCardSaid : Prop := Claim7.holds Tryz.pinned (.plain (OpenSpec.upto judgeIntervalMatchesSpecSpec)) judgeIntervalMatchesSpecUptoCard

/-- THE SECOND FORM's CARD OF 'dynamometerlaw10.JudgeErlangGoesOn'. -/
def judgeErlangGoesOnUptoCard : Claim7 := { stood := { row := judgeErlangGoesOnUptoRow, standIns := [], harness := (true, "20442d9cb69799e7ee11eac5b64ea2dfbb2d0b5b047c13c1e8a029bb37c4ae4b"), looks := true }, kinds := [], alts := [], laidByText := true, laidKinds := [.data, .data, .data, .data, .sentinel, .sentinel, .pinned], laidTests := true, laidLooks := .later }
def JudgeErlangGoesOnUptoCardSaid : Prop := Claim7.holds Tryz.pinned (.plain (OpenSpec.upto judgeErlangGoesOnSpec)) judgeErlangGoesOnUptoCard

/-- THE SECOND FORM's CARD OF 'dynamometerlaw10.JudgeErlangMatchesSpec'. -/
def judgeErlangMatchesSpecUptoCard : Claim7 := { stood := { row := judgeErlangMatchesSpecUptoRow, standIns := [], harness := (true, "20442d9cb69799e7ee11eac5b64ea2dfbb2d0b5b047c13c1e8a029bb37c4ae4b"), looks := true }, kinds := [], alts := [], laidByText := true, laidKinds := [.data, .data, .data, .data, .sentinel, .sentinel, .pinned], laidTests := true, laidLooks := .later }
def JudgeErlangMatchesSpecUptoCardSaid : Prop := Claim7.holds Tryz.pinned (.plain (OpenSpec.upto judgeErlangMatchesSpecSpec)) judgeErlangMatchesSpecUptoCard

/-- THE SECOND FORM's CARD OF 'dynamometerlaw10.JudgeLineMatchesSpec'. -/
def judgeLineMatchesSpecUptoCard : Claim7 := { stood := { row := judgeLineMatchesSpecUptoRow, standIns := [], harness := (true, "20442d9cb69799e7ee11eac5b64ea2dfbb2d0b5b047c13c1e8a029bb37c4ae4b"), looks := true }, kinds := [], alts := [], laidByText := true, laidKinds := [.data, .data, .data, .data, .sentinel, .sentinel, .pinned], laidTests := true, laidLooks := .later }
def JudgeLineMatchesSpecUptoCardSaid : Prop := Claim7.holds Tryz.pinned (.plain (OpenSpec.upto judgeLineMatchesSpecSpec)) judgeLineMatchesSpecUptoCard
end Rows
end Go.Proofs.YtpmnhdgajkickaaGreatDoor
