/-
  DERIVED. GIVEN WITH THE SEED: THE CARDS: each row of YtnapdhfkgfjjfaaGreatDoorRows.lean that lists a variable, with what it lists TIED to the program's text (the seventh form; the later family's looks); each row that meets fmt, with fmt's text TOLD by the authors' own Lean function (tested against real Go, not proved from fmt's source: count such statements apart). THE CARD IS WHAT COUNTS. Prove the row's statement (the work); the ties are given (YtnapdhfkgfjjfaaGreatDoorTie.lean); close each card by the builder's one call (the guide's Derived/Test/ToyasCard.lean, 'card_holds'). Laid BY PROGRAM, IN A SANDBOX (cutbox-door.mjs). By AI agents, Wed Nov 11 2026. No macro, syntax, notation, axiom, sorry.
-/
import Derived.Test.YtnapdhfkgfjjfaaGreatDoorRows
import GoSem.ClaimSeven
namespace Go.Proofs.YtnapdhfkgfjjfaaGreatDoor
namespace Rows

/-- THE TIED CARD OF 'dynamometerlaw10.JudgeRanksAreSymmetric'. -/
def judgeRanksAreSymmetricCard : Claim7 := { stood := { row := judgeRanksAreSymmetricRow, standIns := [], harness := (true, "2f47b8c0f4042e2df7d3af4eba4771e62076fee9dfe71301e92f8396128a1abb"), looks := true }, kinds := [], alts := [], laidByText := true, laidKinds := [.data, .data, .data, .data, .sentinel, .sentinel, .pinned], laidTests := true, laidLooks := .later }
def JudgeRanksAreSymmetricCardSaid : Prop := Claim7.holds Tryz.pinned (.plain (OpenSpec.ofChange judgeRanksAreSymmetricSpec)) judgeRanksAreSymmetricCard

/-- THE TIED CARD OF 'dynamometerlaw10.JudgeSumsMatchSpec'. -/
def judgeSumsMatchSpecCard : Claim7 := { stood := { row := judgeSumsMatchSpecRow, standIns := [], harness := (true, "2f47b8c0f4042e2df7d3af4eba4771e62076fee9dfe71301e92f8396128a1abb"), looks := true }, kinds := [], alts := [], laidByText := true, laidKinds := [.data, .data, .data, .data, .sentinel, .sentinel, .pinned], laidTests := true, laidLooks := .later }
def JudgeSumsMatchSpecCardSaid : Prop := Claim7.holds Tryz.pinned (.plain (OpenSpec.ofChange judgeSumsMatchSpecSpec)) judgeSumsMatchSpecCard

/-- THE TIED CARD OF 'dynamometerlaw10.JudgeRanksMatchSpec'. -/
def judgeRanksMatchSpecCard : Claim7 := { stood := { row := judgeRanksMatchSpecRow, standIns := [], harness := (true, "2f47b8c0f4042e2df7d3af4eba4771e62076fee9dfe71301e92f8396128a1abb"), looks := true }, kinds := [], alts := [], laidByText := true, laidKinds := [.data, .data, .data, .data, .sentinel, .sentinel, .pinned], laidTests := true, laidLooks := .later }
def JudgeRanksMatchSpecCardSaid : Prop := Claim7.holds Tryz.pinned (.plain (OpenSpec.ofChange judgeRanksMatchSpecSpec)) judgeRanksMatchSpecCard

/-- THE TIED CARD OF 'dynamometerlaw10.JudgeErrorsAreKept'. -/
def judgeErrorsAreKeptCard : Claim7 := { stood := { row := judgeErrorsAreKeptRow, standIns := [], harness := (true, "2f47b8c0f4042e2df7d3af4eba4771e62076fee9dfe71301e92f8396128a1abb"), looks := true }, kinds := [], alts := [], laidByText := true, laidKinds := [.data, .data, .data, .data, .sentinel, .sentinel, .pinned], laidTests := true, laidLooks := .later }
def JudgeErrorsAreKeptCardSaid : Prop := Claim7.holds Tryz.pinned (.plain (OpenSpec.ofChange judgeErrorsAreKeptSpec)) judgeErrorsAreKeptCard

/-- THE TIED CARD OF 'dynamometerlaw10.JudgeFollowsBounds'. -/
def judgeFollowsBoundsCard : Claim7 := { stood := { row := judgeFollowsBoundsRow, standIns := [], harness := (true, "2f47b8c0f4042e2df7d3af4eba4771e62076fee9dfe71301e92f8396128a1abb"), looks := true }, kinds := [], alts := [], laidByText := true, laidKinds := [.data, .data, .data, .data, .sentinel, .sentinel, .pinned], laidTests := true, laidLooks := .later }
def JudgeFollowsBoundsCardSaid : Prop := Claim7.holds Tryz.pinned (.plain (OpenSpec.ofChange judgeFollowsBoundsSpec)) judgeFollowsBoundsCard

/-- THE TIED CARD OF 'dynamometerlaw10.JudgeTrialMatchesSpec'. -/
def judgeTrialMatchesSpecCard : Claim7 := { stood := { row := judgeTrialMatchesSpecRow, standIns := [], harness := (true, "2f47b8c0f4042e2df7d3af4eba4771e62076fee9dfe71301e92f8396128a1abb"), looks := true }, kinds := [], alts := [], laidByText := true, laidKinds := [.data, .data, .data, .data, .sentinel, .sentinel, .pinned], laidTests := true, laidLooks := .later }
def JudgeTrialMatchesSpecCardSaid : Prop := Claim7.holds Tryz.pinned (.plain (OpenSpec.ofChange judgeTrialMatchesSpecSpec)) judgeTrialMatchesSpecCard

/-- THE SECOND FORM's CARD OF 'dynamometerlaw10.JudgeRanksAreSymmetric'. -/
def judgeRanksAreSymmetricUptoCard : Claim7 := { stood := { row := judgeRanksAreSymmetricUptoRow, standIns := [], harness := (true, "2f47b8c0f4042e2df7d3af4eba4771e62076fee9dfe71301e92f8396128a1abb"), looks := true }, kinds := [], alts := [], laidByText := true, laidKinds := [.data, .data, .data, .data, .sentinel, .sentinel, .pinned], laidTests := true, laidLooks := .later }
def JudgeRanksAreSymmetricUptoCardSaid : Prop := Claim7.holds Tryz.pinned (.plain (OpenSpec.upto judgeRanksAreSymmetricSpec)) judgeRanksAreSymmetricUptoCard

/-- THE SECOND FORM's CARD OF 'dynamometerlaw10.JudgeSumsMatchSpec'. -/
def judgeSumsMatchSpecUptoCard : Claim7 := { stood := { row := judgeSumsMatchSpecUptoRow, standIns := [], harness := (true, "2f47b8c0f4042e2df7d3af4eba4771e62076fee9dfe71301e92f8396128a1abb"), looks := true }, kinds := [], alts := [], laidByText := true, laidKinds := [.data, .data, .data, .data, .sentinel, .sentinel, .pinned], laidTests := true, laidLooks := .later }
def JudgeSumsMatchSpecUptoCardSaid : Prop := Claim7.holds Tryz.pinned (.plain (OpenSpec.upto judgeSumsMatchSpecSpec)) judgeSumsMatchSpecUptoCard

/-- THE SECOND FORM's CARD OF 'dynamometerlaw10.JudgeRanksMatchSpec'. -/
def judgeRanksMatchSpecUptoCard : Claim7 := { stood := { row := judgeRanksMatchSpecUptoRow, standIns := [], harness := (true, "2f47b8c0f4042e2df7d3af4eba4771e62076fee9dfe71301e92f8396128a1abb"), looks := true }, kinds := [], alts := [], laidByText := true, laidKinds := [.data, .data, .data, .data, .sentinel, .sentinel, .pinned], laidTests := true, laidLooks := .later }
def JudgeRanksMatchSpecUptoCardSaid : Prop := Claim7.holds Tryz.pinned (.plain (OpenSpec.upto judgeRanksMatchSpecSpec)) judgeRanksMatchSpecUptoCard

/-- THE SECOND FORM's CARD OF 'dynamometerlaw10.JudgeErrorsAreKept'. -/
def judgeErrorsAreKeptUptoCard : Claim7 := { stood := { row := judgeErrorsAreKeptUptoRow, standIns := [], harness := (true, "2f47b8c0f4042e2df7d3af4eba4771e62076fee9dfe71301e92f8396128a1abb"), looks := true }, kinds := [], alts := [], laidByText := true, laidKinds := [.data, .data, .data, .data, .sentinel, .sentinel, .pinned], laidTests := true, laidLooks := .later }
def JudgeErrorsAreKeptUptoCardSaid : Prop := Claim7.holds Tryz.pinned (.plain (OpenSpec.upto judgeErrorsAreKeptSpec)) judgeErrorsAreKeptUptoCard

/-- THE SECOND FORM's CARD OF 'dynamometerlaw10.JudgeFollowsBounds'. -/
def judgeFollowsBoundsUptoCard : Claim7 := { stood := { row := judgeFollowsBoundsUptoRow, standIns := [], harness := (true, "2f47b8c0f4042e2df7d3af4eba4771e62076fee9dfe71301e92f8396128a1abb"), looks := true }, kinds := [], alts := [], laidByText := true, laidKinds := [.data, .data, .data, .data, .sentinel, .sentinel, .pinned], laidTests := true, laidLooks := .later }
def JudgeFollowsBoundsUptoCardSaid : Prop := Claim7.holds Tryz.pinned (.plain (OpenSpec.upto judgeFollowsBoundsSpec)) judgeFollowsBoundsUptoCard

/-- THE SECOND FORM's CARD OF 'dynamometerlaw10.JudgeTrialMatchesSpec'. -/
def judgeTrialMatchesSpecUptoCard : Claim7 := { stood := { row := judgeTrialMatchesSpecUptoRow, standIns := [], harness := (true, "2f47b8c0f4042e2df7d3af4eba4771e62076fee9dfe71301e92f8396128a1abb"), looks := true }, kinds := [], alts := [], laidByText := true, laidKinds := [.data, .data, .data, .data, .sentinel, .sentinel, .pinned], laidTests := true, laidLooks := .later }
def JudgeTrialMatchesSpecUptoCardSaid : Prop := Claim7.holds Tryz.pinned (.plain (OpenSpec.upto judgeTrialMatchesSpecSpec)) judgeTrialMatchesSpecUptoCard
end Rows
end Go.Proofs.YtnapdhfkgfjjfaaGreatDoor
