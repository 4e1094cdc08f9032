/-
  DERIVED. GIVEN WITH THE SEED: THE CARDS: each row of YtfeicfohahfhiaaGreatDoorRows.lean that lists a variable, with what it lists TIED to the program's text (the seventh form; the later family's looks); each row that meets fmt, with fmt's text TOLD by the authors' own Lean function (tested against real Go, not proved from fmt's source: count such statements apart). THE CARD IS WHAT COUNTS. Prove the row's statement (the work); the ties are given (YtfeicfohahfhiaaGreatDoorTie.lean); close each card by the builder's one call (the guide's Derived/Test/ToyasCard.lean, 'card_holds'). Laid BY PROGRAM, IN A SANDBOX (cutbox-door.mjs). By AI agents, Wed Nov 11 2026. No macro, syntax, notation, axiom, sorry.
-/
import Derived.Test.YtfeicfohahfhiaaGreatDoorRows
import GoSem.ClaimSeven
namespace Go.Proofs.YtfeicfohahfhiaaGreatDoor
namespace Rows

/-- THE TIED CARD OF 'dynamometerlaw10.JudgeBinomialMatchesSpec'. -/
def judgeBinomialMatchesSpecCard : Claim7 := { stood := { row := judgeBinomialMatchesSpecRow, standIns := [], harness := (true, "39dbf357949f48cff1d17071b78ed34e71a1ba06fce693c3e0bf22b57e45d986"), looks := true }, kinds := [], alts := [], laidByText := true, laidKinds := [.data, .data, .data, .data, .sentinel, .sentinel, .pinned], laidTests := true, laidLooks := .later }
def JudgeBinomialMatchesSpecCardSaid : Prop := Claim7.holds Tryz.pinned (.plain (OpenSpec.ofChange judgeBinomialMatchesSpecSpec)) judgeBinomialMatchesSpecCard

/-- THE TIED CARD OF 'dynamometerlaw10.JudgeIntervalMatchesSpec'. -/
def judgeIntervalMatchesSpecCard : Claim7 := { stood := { row := judgeIntervalMatchesSpecRow, standIns := [], harness := (true, "39dbf357949f48cff1d17071b78ed34e71a1ba06fce693c3e0bf22b57e45d986"), looks := true }, kinds := [], alts := [], laidByText := true, laidKinds := [.data, .data, .data, .data, .sentinel, .sentinel, .pinned], laidTests := true, laidLooks := .later }
def JudgeIntervalMatchesSpecCardSaid : Prop := Claim7.holds Tryz.pinned (.plain (OpenSpec.ofChange judgeIntervalMatchesSpecSpec)) judgeIntervalMatchesSpecCard

/-- THE TIED CARD OF 'dynamometerlaw10.JudgeRatiosMatchSpec'. -/
def judgeRatiosMatchSpecCard : Claim7 := { stood := { row := judgeRatiosMatchSpecRow, standIns := [], harness := (true, "39dbf357949f48cff1d17071b78ed34e71a1ba06fce693c3e0bf22b57e45d986"), looks := true }, kinds := [], alts := [], laidByText := true, laidKinds := [.data, .data, .data, .data, .sentinel, .sentinel, .pinned], laidTests := true, laidLooks := .later }
def JudgeRatiosMatchSpecCardSaid : Prop := Claim7.holds Tryz.pinned (.plain (OpenSpec.ofChange judgeRatiosMatchSpecSpec)) judgeRatiosMatchSpecCard

/-- THE SECOND FORM's CARD OF 'dynamometerlaw10.JudgeBinomialMatchesSpec'. -/
def judgeBinomialMatchesSpecUptoCard : Claim7 := { stood := { row := judgeBinomialMatchesSpecUptoRow, standIns := [], harness := (true, "39dbf357949f48cff1d17071b78ed34e71a1ba06fce693c3e0bf22b57e45d986"), looks := true }, kinds := [], alts := [], laidByText := true, laidKinds := [.data, .data, .data, .data, .sentinel, .sentinel, .pinned], laidTests := true, laidLooks := .later }
def JudgeBinomialMatchesSpecUptoCardSaid : Prop := Claim7.holds Tryz.pinned (.plain (OpenSpec.upto judgeBinomialMatchesSpecSpec)) judgeBinomialMatchesSpecUptoCard

/-- THE SECOND FORM's CARD OF 'dynamometerlaw10.JudgeIntervalMatchesSpec'. -/
def judgeIntervalMatchesSpecUptoCard : Claim7 := { stood := { row := judgeIntervalMatchesSpecUptoRow, standIns := [], harness := (true, "39dbf357949f48cff1d17071b78ed34e71a1ba06fce693c3e0bf22b57e45d986"), looks := true }, kinds := [], alts := [], laidByText := true, laidKinds := [.data, .data, .data, .data, .sentinel, .sentinel, .pinned], laidTests := true, laidLooks := .later }
def JudgeIntervalMatchesSpecUptoCardSaid : Prop := Claim7.holds Tryz.pinned (.plain (OpenSpec.upto judgeIntervalMatchesSpecSpec)) judgeIntervalMatchesSpecUptoCard

/-- THE SECOND FORM's CARD OF 'dynamometerlaw10.JudgeRatiosMatchSpec'. -/
def judgeRatiosMatchSpecUptoCard : Claim7 := { stood := { row := judgeRatiosMatchSpecUptoRow, standIns := [], harness := (true, "39dbf357949f48cff1d17071b78ed34e71a1ba06fce693c3e0bf22b57e45d986"), looks := true }, kinds := [], alts := [], laidByText := true, laidKinds := [.data, .data, .data, .data, .sentinel, .sentinel, .pinned], laidTests := true, laidLooks := .later }
def JudgeRatiosMatchSpecUptoCardSaid : Prop := Claim7.holds Tryz.pinned (.plain (OpenSpec.upto judgeRatiosMatchSpecSpec)) judgeRatiosMatchSpecUptoCard
end Rows
end Go.Proofs.YtfeicfohahfhiaaGreatDoor
