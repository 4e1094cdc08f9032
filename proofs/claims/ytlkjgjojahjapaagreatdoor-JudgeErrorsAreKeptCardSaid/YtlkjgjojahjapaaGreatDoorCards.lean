/-
  DERIVED. GIVEN WITH THE SEED: THE CARDS: each row of YtlkjgjojahjapaaGreatDoorRows.lean that lists a variable, with what it lists TIED to the program's text (the seventh form; the later family's looks); each row that meets fmt, with fmt's text TOLD by the authors' own Lean function (tested against real Go, not proved from fmt's source: count such statements apart). THE CARD IS WHAT COUNTS. Prove the row's statement (the work); the ties are given (YtlkjgjojahjapaaGreatDoorTie.lean); close each card by the builder's one call (the guide's Derived/Test/ToyasCard.lean, 'card_holds'). Laid BY PROGRAM, IN A SANDBOX (cutbox-door.mjs). By AI agents, Wed Nov 11 2026. No macro, syntax, notation, axiom, sorry.
-/
import Derived.Test.YtlkjgjojahjapaaGreatDoorRows
import GoSem.ClaimSeven
namespace Go.Proofs.YtlkjgjojahjapaaGreatDoor
namespace Rows

/-- THE TIED CARD OF 'dynamometerlaw10.JudgeErrorsAreKept'. -/
def judgeErrorsAreKeptCard : Claim7 := { stood := { row := judgeErrorsAreKeptRow, standIns := [], harness := (true, "37721a6960559ea25daecdccc8a236bf0ca3998e972c9dcfd9cbcf3753e9cd68"), looks := true }, kinds := [], alts := [], laidByText := true, laidKinds := [.data, .data, .data, .data, .sentinel, .sentinel, .pinned], laidTests := true, laidLooks := .later }
def JudgeErrorsAreKeptCardSaid : Prop := Claim7.holds Tryz.pinned (.plain (OpenSpec.ofChange judgeErrorsAreKeptSpec)) judgeErrorsAreKeptCard

/-- THE TIED CARD OF 'dynamometerlaw10.JudgeChangesAreLeast'. -/
def judgeChangesAreLeastCard : Claim7 := { stood := { row := judgeChangesAreLeastRow, standIns := [], harness := (true, "37721a6960559ea25daecdccc8a236bf0ca3998e972c9dcfd9cbcf3753e9cd68"), looks := true }, kinds := [], alts := [], laidByText := true, laidKinds := [.data, .data, .data, .data, .sentinel, .sentinel, .pinned], laidTests := true, laidLooks := .later }
def JudgeChangesAreLeastCardSaid : Prop := Claim7.holds Tryz.pinned (.plain (OpenSpec.ofChange judgeChangesAreLeastSpec)) judgeChangesAreLeastCard

/-- THE TIED CARD OF 'dynamometerlaw10.JudgeChangesMatchSpec'. -/
def judgeChangesMatchSpecCard : Claim7 := { stood := { row := judgeChangesMatchSpecRow, standIns := [], harness := (true, "37721a6960559ea25daecdccc8a236bf0ca3998e972c9dcfd9cbcf3753e9cd68"), looks := true }, kinds := [], alts := [], laidByText := true, laidKinds := [.data, .data, .data, .data, .sentinel, .sentinel, .pinned], laidTests := true, laidLooks := .later }
def JudgeChangesMatchSpecCardSaid : Prop := Claim7.holds Tryz.pinned (.plain (OpenSpec.ofChange judgeChangesMatchSpecSpec)) judgeChangesMatchSpecCard

/-- THE TIED CARD OF 'dynamometerlaw10.JudgeAlertsMatchSpec'. -/
def judgeAlertsMatchSpecCard : Claim7 := { stood := { row := judgeAlertsMatchSpecRow, standIns := [], harness := (true, "37721a6960559ea25daecdccc8a236bf0ca3998e972c9dcfd9cbcf3753e9cd68"), looks := true }, kinds := [], alts := [], laidByText := true, laidKinds := [.data, .data, .data, .data, .sentinel, .sentinel, .pinned], laidTests := true, laidLooks := .later }
def JudgeAlertsMatchSpecCardSaid : Prop := Claim7.holds Tryz.pinned (.plain (OpenSpec.ofChange judgeAlertsMatchSpecSpec)) judgeAlertsMatchSpecCard

/-- THE SECOND FORM's CARD OF 'dynamometerlaw10.JudgeErrorsAreKept'. -/
def judgeErrorsAreKeptUptoCard : Claim7 := { stood := { row := judgeErrorsAreKeptUptoRow, standIns := [], harness := (true, "37721a6960559ea25daecdccc8a236bf0ca3998e972c9dcfd9cbcf3753e9cd68"), looks := true }, kinds := [], alts := [], laidByText := true, laidKinds := [.data, .data, .data, .data, .sentinel, .sentinel, .pinned], laidTests := true, laidLooks := .later }
def JudgeErrorsAreKeptUptoCardSaid : Prop := Claim7.holds Tryz.pinned (.plain (OpenSpec.upto judgeErrorsAreKeptSpec)) judgeErrorsAreKeptUptoCard

/-- THE SECOND FORM's CARD OF 'dynamometerlaw10.JudgeChangesAreLeast'. -/
def judgeChangesAreLeastUptoCard : Claim7 := { stood := { row := judgeChangesAreLeastUptoRow, standIns := [], harness := (true, "37721a6960559ea25daecdccc8a236bf0ca3998e972c9dcfd9cbcf3753e9cd68"), looks := true }, kinds := [], alts := [], laidByText := true, laidKinds := [.data, .data, .data, .data, .sentinel, .sentinel, .pinned], laidTests := true, laidLooks := .later }
def JudgeChangesAreLeastUptoCardSaid : Prop := Claim7.holds Tryz.pinned (.plain (OpenSpec.upto judgeChangesAreLeastSpec)) judgeChangesAreLeastUptoCard

/-- THE SECOND FORM's CARD OF 'dynamometerlaw10.JudgeChangesMatchSpec'. -/
def judgeChangesMatchSpecUptoCard : Claim7 := { stood := { row := judgeChangesMatchSpecUptoRow, standIns := [], harness := (true, "37721a6960559ea25daecdccc8a236bf0ca3998e972c9dcfd9cbcf3753e9cd68"), looks := true }, kinds := [], alts := [], laidByText := true, laidKinds := [.data, .data, .data, .data, .sentinel, .sentinel, .pinned], laidTests := true, laidLooks := .later }
def JudgeChangesMatchSpecUptoCardSaid : Prop := Claim7.holds Tryz.pinned (.plain (OpenSpec.upto judgeChangesMatchSpecSpec)) judgeChangesMatchSpecUptoCard

/-- THE SECOND FORM's CARD OF 'dynamometerlaw10.JudgeAlertsMatchSpec'. -/
def judgeAlertsMatchSpecUptoCard : Claim7 := { stood := { row := judgeAlertsMatchSpecUptoRow, standIns := [], harness := (true, "37721a6960559ea25daecdccc8a236bf0ca3998e972c9dcfd9cbcf3753e9cd68"), looks := true }, kinds := [], alts := [], laidByText := true, laidKinds := [.data, .data, .data, .data, .sentinel, .sentinel, .pinned], laidTests := true, laidLooks := .later }
def JudgeAlertsMatchSpecUptoCardSaid : Prop := Claim7.holds Tryz.pinned (.plain (OpenSpec.upto judgeAlertsMatchSpecSpec)) judgeAlertsMatchSpecUptoCard
end Rows
end Go.Proofs.YtlkjgjojahjapaaGreatDoor
