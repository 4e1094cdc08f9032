import Derived.Test.YtjkoppdddaknlaaGreatDoorG16
import Derived.Test.YtjkoppdddaknlaaGreatDoorInkB
import Derived.Laws.BytesString
import Derived.Lib.ItoaLen
import Derived.Lib.SlBytesRow
import Derived.Lib.BufferRead
import Derived.Lib.AppendStr
/- Ink: what is written is a function of what is to be written. -/
namespace Go.Proofs.YtjkoppdddaknlaaGreatDoor
open Go Go.RowKit Go.Proofs Go.Maps

/-- what Histogram writes -/
def inkPairs (cs : List (Int × Int)) : List UInt8 := cs.flatMap fun c => inkInt c.1 ++ inkInt c.2
def inkHist (b : Int) (cs : List (Int × Int)) : List UInt8 := inkInt b ++ inkInt cs.length ++ inkPairs cs
theorem inkPairs_take (cs : List (Int × Int)) (i : Nat) (x n : Int) (h : cs[i]? = some (x, n)) : inkPairs (cs.take (i + 1)) = inkPairs (cs.take i) ++ inkInt x ++ inkInt n := by
  rw [List.take_add_one, h]; simp [inkPairs]
theorem inkPairs_length (cs : List (Int × Int)) (h : ∀ c ∈ cs, I64 c.1 ∧ I64 c.2) : (inkPairs cs).length ≤ 44 * cs.length := by
  induction cs with
  | nil => simp [inkPairs]
  | cons c cs ih =>
    have h1 := ih (fun x hx => h x (by simp [hx]))
    have h2 := h c (by simp)
    have l1 := inkInt_length c.1 h2.1.1 h2.1.2
    have l2 := inkInt_length c.2 h2.2.1 h2.2.2
    simp only [inkPairs, List.flatMap_cons, List.length_append, List.length_cons] at *
    omega

end Go.Proofs.YtjkoppdddaknlaaGreatDoor

/- Ink: texts and fractions; package dynamometerlaw7's toldRatio. -/
namespace Go.Proofs.YtjkoppdddaknlaaGreatDoor
open Go Go.RowKit Go.Proofs

def inkText (L : List UInt8) : List UInt8 := inkInt L.length ++ L
theorem strCells_bytes (L : List UInt8) : Lib.strCells ⟨L.toArray⟩ = Lib.byteCells L := by
  simp [Lib.strCells, Lib.byteCells]
theorem size_bytes (L : List UInt8) : (⟨L.toArray⟩ : ByteArray).size = L.length := by simp [ByteArray.size]

end Go.Proofs.YtjkoppdddaknlaaGreatDoor

/- Ink: lists of integers; package dynamometerlaw7's told. -/
namespace Go.Proofs.YtjkoppdddaknlaaGreatDoor
open Go Go.RowKit Go.Proofs

def inkIs (zs : List Int) : List UInt8 := zs.flatMap inkInt
def inkInts (zs : List Int) : List UInt8 := inkInt zs.length ++ inkIs zs
theorem inkIs_take {zs : List Int} {i : Nat} {z : Int} (h : zs[i]? = some z) : inkIs (zs.take (i + 1)) = inkIs (zs.take i) ++ inkInt z := by
  unfold inkIs; rw [List.take_add_one, h]; simp
theorem inkIs_length (zs : List Int) (h : ∀ z ∈ zs, I64 z) : (inkIs zs).length ≤ 22 * zs.length := by
  induction zs with
  | nil => simp [inkIs]
  | cons z zs ih =>
    have h1 := inkInt_length z (h z (by simp)).1 (h z (by simp)).2
    have := ih (fun x hx => h x (by simp [hx]))
    simp only [inkIs, List.flatMap_cons, List.length_append, List.length_cons] at *
    omega

end Go.Proofs.YtjkoppdddaknlaaGreatDoor
