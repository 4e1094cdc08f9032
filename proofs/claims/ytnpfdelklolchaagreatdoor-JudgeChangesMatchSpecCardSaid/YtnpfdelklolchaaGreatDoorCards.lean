/-
  DERIVED. GIVEN WITH THE SEED: THE CARDS: each row of YtnpfdelklolchaaGreatDoorRows.lean that lists a variable, with what it lists TIED to the program's text (the seventh form; the later family's looks); each row that meets fmt, with fmt's text TOLD by the authors' own Lean function (tested against real Go, not proved from fmt's source: count such statements apart). THE CARD IS WHAT COUNTS. Prove the row's statement (the work); the ties are given (YtnpfdelklolchaaGreatDoorTie.lean); close each card by the builder's one call (the guide's Derived/Test/ToyasCard.lean, 'card_holds'). Laid BY PROGRAM, IN A SANDBOX (cutbox-door.mjs). By AI agents, Wed Nov 11 2026. No macro, syntax, notation, axiom, sorry.
-/
import Derived.Test.YtnpfdelklolchaaGreatDoorRows
import GoSem.ClaimSeven
namespace Go.Proofs.YtnpfdelklolchaaGreatDoor
namespace Rows

/-- THE TIED CARD OF 'dynamometerlaw10.JudgeChangesAreLeast'. -/
def judgeChangesAreLeastCard : Claim7 := { stood := { row := judgeChangesAreLeastRow, standIns := [], harness := (true, "6f5b56457419250ac48fa69dff52987c8dcc1aed57bb4c35acf579f335eba984"), looks := true }, kinds := [], alts := [], laidByText := true, laidKinds := [.data, .data, .data, .data, .sentinel, .sentinel, .pinned], laidTests := true, laidLooks := .later }
def JudgeChangesAreLeastCardSaid : Prop := Claim7.holds Tryz.pinned (.plain (OpenSpec.ofChange judgeChangesAreLeastSpec)) judgeChangesAreLeastCard

/-- THE TIED CARD OF 'dynamometerlaw10.JudgeChangesMatchSpec'. -/
def judgeChangesMatchSpecCard : Claim7 := { stood := { row := judgeChangesMatchSpecRow, standIns := [], harness := (true, "6f5b56457419250ac48fa69dff52987c8dcc1aed57bb4c35acf579f335eba984"), looks := true }, kinds := [], alts := [], laidByText := true, laidKinds := [.data, .data, .data, .data, .sentinel, .sentinel, .pinned], laidTests := true, laidLooks := .later }
def JudgeChangesMatchSpecCardSaid : Prop := Claim7.holds Tryz.pinned (.plain (OpenSpec.ofChange judgeChangesMatchSpecSpec)) judgeChangesMatchSpecCard

/-- THE TIED CARD OF 'dynamometerlaw10.JudgeAlertsMatchSpec'. -/
def judgeAlertsMatchSpecCard : Claim7 := { stood := { row := judgeAlertsMatchSpecRow, standIns := [], harness := (true, "6f5b56457419250ac48fa69dff52987c8dcc1aed57bb4c35acf579f335eba984"), looks := true }, kinds := [], alts := [], laidByText := true, laidKinds := [.data, .data, .data, .data, .sentinel, .sentinel, .pinned], laidTests := true, laidLooks := .later }
def JudgeAlertsMatchSpecCardSaid : Prop := Claim7.holds Tryz.pinned (.plain (OpenSpec.ofChange judgeAlertsMatchSpecSpec)) judgeAlertsMatchSpecCard

/-- THE SECOND FORM's CARD OF 'dynamometerlaw10.JudgeChangesAreLeast'. -/
def judgeChangesAreLeastUptoCard : Claim7 := { stood := { row := judgeChangesAreLeastUptoRow, standIns := [], harness := (true, "6f5b56457419250ac48fa69dff52987c8dcc1aed57bb4c35acf579f335eba984"), looks := true }, kinds := [], alts := [], laidByText := true, laidKinds := [.data, .data, .data, .data, .sentinel, .sentinel, .pinned], laidTests := true, laidLooks := .later }
def JudgeChangesAreLeastUptoCardSaid : Prop := Claim7.holds Tryz.pinned (.plain (OpenSpec.upto judgeChangesAreLeastSpec)) judgeChangesAreLeastUptoCard

/-- THE SECOND FORM's CARD OF 'dynamometerlaw10.JudgeChangesMatchSpec'. -/
def judgeChangesMatchSpecUptoCard : Claim7 := { stood := { row := judgeChangesMatchSpecUptoRow, standIns := [], harness := (true, "6f5b56457419250ac48fa69dff52987c8dcc1aed57bb4c35acf579f335eba984"), looks := true }, kinds := [], alts := [], laidByText := true, laidKinds := [.data, .data, .data, .data, .sentinel, .sentinel, .pinned], laidTests := true, laidLooks := .later }
def JudgeChangesMatchSpecUptoCardSaid : Prop := Claim7.holds Tryz.pinned (.plain (OpenSpec.upto judgeChangesMatchSpecSpec)) judgeChangesMatchSpecUptoCard

/-- THE SECOND FORM's CARD OF 'dynamometerlaw10.JudgeAlertsMatchSpec'. -/
def judgeAlertsMatchSpecUptoCard : Claim7 := { stood := { row := judgeAlertsMatchSpecUptoRow, standIns := [], harness := (true, "6f5b56457419250ac48fa69dff52987c8dcc1aed57bb4c35acf579f335eba984"), looks := true }, kinds := [], alts := [], laidByText := true, laidKinds := [.data, .data, .data, .data, .sentinel, .sentinel, .pinned], laidTests := true, laidLooks := .later }
def JudgeAlertsMatchSpecUptoCardSaid : Prop := Claim7.holds Tryz.pinned (.plain (OpenSpec.upto judgeAlertsMatchSpecSpec)) judgeAlertsMatchSpecUptoCard
end Rows
end Go.Proofs.YtnpfdelklolchaaGreatDoor
