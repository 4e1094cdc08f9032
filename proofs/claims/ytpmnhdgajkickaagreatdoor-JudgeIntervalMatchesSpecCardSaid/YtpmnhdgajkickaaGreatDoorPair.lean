/- Pairs of fractions of the reference in two variables: what stores leave. -/
import Derived.Test.YtpmnhdgajkickaaGreatDoorG23
import Derived.Test.YtpmnhdgajkickaaGreatDoorG15
namespace Go.Proofs.YtpmnhdgajkickaaGreatDoor
open Go Go.RowKit Go.Proofs

theorem rnatr_set3 {w : World} {B : Nat} {u0 u1 u2 a0 a1 a2 : Value} {A : Option Addr} {c x : Nat} {l : List Nat} (h : RNatR w A c l x) (hX : w.heap[B]? = some (.cells #[u0, u1, u2] 35 (0, 0))) (hne : ∀ z, u0 ≠ .int .i64 z ∧ u1 ≠ .int .i64 z ∧ u2 ≠ .int .i64 z) : RNatR (((w.setCell ⟨B, 0, none⟩ a0).setCell ⟨B, 1, none⟩ a1).setCell ⟨B, 2, none⟩ a2) A c l x :=
  h.keep (fr3 (w := w) (B := B) a0 a1 a2).size (fun b o e hb hl => (fr3 (w := w) (B := B) a0 a1 a2).block b hb (h.apart hX (by intro v hv z; have := hne z; simp at hv; rcases hv with rfl | rfl | rfl <;> simp [this]) b o e hl))
theorem fbox_far {w : World} {B B' : Nat} (h : FBox w B) (hB : B ≠ B') (a0 a1 a2 : Value) : FBox (((w.setCell ⟨B', 0, none⟩ a0).setCell ⟨B', 1, none⟩ a1).setCell ⟨B', 2, none⟩ a2) B :=
  ((Below.heap_setCell ((w.setCell ⟨B', 0, none⟩ a0).setCell ⟨B', 1, none⟩ a1) ⟨B', 2, none⟩ a2 B hB).trans ((Below.heap_setCell (w.setCell ⟨B', 0, none⟩ a0) ⟨B', 1, none⟩ a1 B hB).trans (Below.heap_setCell w ⟨B', 0, none⟩ a0 B hB))).trans h
end Go.Proofs.YtpmnhdgajkickaaGreatDoor
