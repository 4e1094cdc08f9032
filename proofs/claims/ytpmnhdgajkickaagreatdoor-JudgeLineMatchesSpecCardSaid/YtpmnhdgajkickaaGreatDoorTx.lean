/- A pair of texts in a box. -/
import Derived.Test.YtpmnhdgajkickaaGreatDoorB1
import Derived.Test.YtpmnhdgajkickaaGreatDoorB0
namespace Go.Proofs.YtpmnhdgajkickaaGreatDoor
open Go Go.RowKit Go.Proofs

def Txt2 (W : World) (B : Nat) (S1 S2 : ByteArray) : Prop := W.heap[B]? = some (.cells #[.string S1, .string S2] 23 (0, 0))
theorem Txt2.on {w w' : World} {B : Nat} {S1 S2 : ByteArray} (h : Txt2 w B S1 S2) (hb : Below w.heap.size w w') : Txt2 w' B S1 S2 := (hb.block B (heap_lt h)).trans h
theorem Txt2.facts {w : World} {B : Nat} {S1 S2 : ByteArray} (h : Txt2 w B S1 S2) : w.cell? ⟨B, 0, none⟩ = some (.string S1) ∧ w.cell? ⟨B, 1, none⟩ = some (.string S2) ∧ w.frozen? ⟨B, 0, none⟩ = false ∧ w.frozen? ⟨B, 1, none⟩ = false ∧ B < w.heap.size :=
  ⟨by rw [cellsAt h]; rfl, by rw [cellsAt h]; rfl, frozenAt h 0, frozenAt h 1, heap_lt h⟩
theorem txt2_set {W : World} {B : Nat} {a b x y : Value} {t : TypeId} (h : W.heap[B]? = some (.cells #[a, b] t (0, 0))) : ((W.setCell ⟨B, 0, none⟩ x).setCell ⟨B, 1, none⟩ y).heap[B]? = some (.cells #[x, y] t (0, 0)) := by
  simp [World.setCell, Array.getElem?_modify, h]
theorem txt2_far {W : World} {B B' : Nat} {x y : Value} (h : B' ≠ B) : ((W.setCell ⟨B, 0, none⟩ x).setCell ⟨B, 1, none⟩ y).heap[B']? = W.heap[B']? :=
  (Below.heap_setCell (W.setCell ⟨B, 0, none⟩ x) ⟨B, 1, none⟩ y B' h).trans (Below.heap_setCell W ⟨B, 0, none⟩ x B' h)
theorem txt2_below {w W : World} {B : Nat} (h : Below w.heap.size w W) (hB : w.heap.size ≤ B) (x y : Value) : Below w.heap.size w ((W.setCell ⟨B, 0, none⟩ x).setCell ⟨B, 1, none⟩ y) := (h.setCell (p := ⟨B, 0, none⟩) hB x).setCell (p := ⟨B, 1, none⟩) hB y
theorem fr2 {w : World} {B : Nat} (u v : Value) : Fr (fun i => i = B) w ((w.setCell ⟨B, 0, none⟩ u).setCell ⟨B, 1, none⟩ v) :=
  ((Fr.refl (fun i => i = B) w).setCell (fun _ => rfl) _).setCell (fun _ => rfl) _
end Go.Proofs.YtpmnhdgajkickaaGreatDoor
