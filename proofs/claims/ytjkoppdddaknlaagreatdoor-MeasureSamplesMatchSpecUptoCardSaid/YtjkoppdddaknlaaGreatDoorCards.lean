/-
  DERIVED. GIVEN WITH THE SEED: THE CARDS: each row of YtjkoppdddaknlaaGreatDoorRows.lean that lists a variable, with what it lists TIED to the program's text (the seventh form; the later family's looks); each row that meets fmt, with fmt's text TOLD by the authors' own Lean function (tested against real Go, not proved from fmt's source: count such statements apart). THE CARD IS WHAT COUNTS. Prove the row's statement (the work); the ties are given (YtjkoppdddaknlaaGreatDoorTie.lean); close each card by the builder's one call (the guide's Derived/Test/ToyasCard.lean, 'card_holds'). Laid BY PROGRAM, IN A SANDBOX (cutbox-door.mjs). By AI agents, Wed Nov 11 2026. No macro, syntax, notation, axiom, sorry.
-/
import Derived.Test.YtjkoppdddaknlaaGreatDoorRows
import GoSem.ClaimSeven
namespace Go.Proofs.YtjkoppdddaknlaaGreatDoor
namespace Rows

/-- THE TIED CARD OF 'dynamometerlaw9.MeasureSamplesMatchSpec'. -/
def measureSamplesMatchSpecCard : Claim7 := { stood := { row := measureSamplesMatchSpecRow, standIns := [], harness := (true, "e0cdc53fe7673bb37b951486a858eb56bf7bec46460172293aed7226688c305a"), looks := false }, kinds := [], alts := [], laidByText := true, laidKinds := [.data, .data, .data], laidTests := true, laidLooks := .later }
def MeasureSamplesMatchSpecCardSaid : Prop := Claim7.holds Tryz.pinned (.plain (OpenSpec.ofChange measureSamplesMatchSpecSpec)) measureSamplesMatchSpecCard

/-- THE SECOND FORM's CARD OF 'dynamometerlaw9.MeasureSamplesMatchSpec'. -/
def measureSamplesMatchSpecUptoCard : Claim7 := { stood := { row := measureSamplesMatchSpecUptoRow, standIns := [], harness := (true, "e0cdc53fe7673bb37b951486a858eb56bf7bec46460172293aed7226688c305a"), looks := false }, kinds := [], alts := [], laidByText := true, laidKinds := [.data, .data, .data], laidTests := true, laidLooks := .later }
def MeasureSamplesMatchSpecUptoCardSaid : Prop := Claim7.holds Tryz.pinned (.plain (OpenSpec.upto measureSamplesMatchSpecSpec)) measureSamplesMatchSpecUptoCard
end Rows
end Go.Proofs.YtjkoppdddaknlaaGreatDoor
