/- The reference's fractions as values and in boxes. -/
import Derived.Test.YtpmnhdgajkickaaGreatDoorB13
import Derived.Test.YtpmnhdgajkickaaGreatDoorB26
namespace Go.Proofs.YtpmnhdgajkickaaGreatDoor
open Go Go.RowKit Go.Proofs

theorem FracR.shape {w : World} {v : Value} {q : Rat} (h : FracR w v q) : ∃ b A1 c1 l1 A2 c2 l2, v = .agg #[.bool b, .slice A1 (l1 : List Nat).length c1, .slice A2 (l2 : List Nat).length c2] := by
  obtain ⟨A1, c1, l1, A2, c2, l2, h1, _⟩ := h
  exact ⟨_, A1, c1, l1, A2, c2, l2, h1⟩
theorem VarQ.get {w : World} {B : Nat} {q : Rat} (h : VarQ w B q) : ∃ b A1 c1 l1 A2 c2 l2, (∀ W, Below w.heap.size w W → W.cell? ⟨B, 0, none⟩ = some (.bool b) ∧ W.cell? ⟨B, 1, none⟩ = some (.slice A1 (l1 : List Nat).length c1) ∧ W.cell? ⟨B, 2, none⟩ = some (.slice A2 (l2 : List Nat).length c2) ∧ W.frozen? ⟨B, 0, none⟩ = false ∧ W.frozen? ⟨B, 1, none⟩ = false ∧ W.frozen? ⟨B, 2, none⟩ = false ∧ B < W.heap.size) ∧ FracR w (.agg #[.bool b, .slice A1 l1.length c1, .slice A2 l2.length c2]) q := by
  obtain ⟨A1, c1, l1, A2, c2, l2, e, h1, h2⟩ := h
  refine ⟨_, A1, c1, l1, A2, c2, l2, fun W hW => ?_, A1, c1, l1, A2, c2, l2, rfl, h1, h2⟩
  have e' := (hW.block B (heap_lt e)).trans e
  exact ⟨by rw [cellsAt e']; rfl, by rw [cellsAt e']; rfl, by rw [cellsAt e']; rfl, frozenAt e' 0, frozenAt e' 1, frozenAt e' 2, heap_lt e'⟩
theorem VarQ.raw {w : World} {B : Nat} {q : Rat} (h : VarQ w B q) : ∃ b A1 d1 c1 A2 d2 c2, w.heap[B]? = some (.cells #[.bool b, .slice A1 d1 c1, .slice A2 d2 c2] 35 (0, 0)) := by
  obtain ⟨A1, c1, l1, A2, c2, l2, e, h1, h2⟩ := h
  exact ⟨_, _, _, _, _, _, _, e⟩
theorem VarQ.laid {w : World} {b : Bool} {A1 A2 : Option Addr} {c1 c2 : Nat} {l1 l2 : List Nat} {q : Rat} (h : FracR w (.agg #[.bool b, .slice A1 l1.length c1, .slice A2 l2.length c2]) q) : VarQ (w.alloc (.cells #[.bool b, .slice A1 l1.length c1, .slice A2 l2.length c2] 35)) w.heap.size q := by
  obtain ⟨A3, c3, l3, A4, c4, l4, e, h1, h2⟩ := h
  have hb : Below w.heap.size w (w.alloc (.cells #[.bool b, .slice A1 l1.length c1, .slice A2 l2.length c2] 35)) := (Below.refl _ w).alloc (Nat.le_refl _) _
  refine ⟨A3, c3, l3, A4, c4, l4, ?_, h1.on hb, h2.on hb⟩
  simp only [Value.agg.injEq, Array.mk.injEq, List.cons.injEq, and_true] at e
  obtain ⟨e1, e2, e3⟩ := e
  rw [e1, e2, e3]
  exact alloc_at _ _ _ rfl
theorem VarQ.store {w : World} {B : Nat} {b b0 : Bool} {A1 A2 : Option Addr} {c1 c2 : Nat} {l1 l2 : List Nat} {B1 B2 : Option Addr} {d1 d2 e1 e2 : Nat} {q : Rat} (hX : w.heap[B]? = some (.cells #[.bool b0, .slice B1 d1 e1, .slice B2 d2 e2] 35 (0, 0))) (h : FracR w (.agg #[.bool b, .slice A1 l1.length c1, .slice A2 l2.length c2]) q) :
    VarQ (((w.setCell ⟨B, 0, none⟩ (.bool b)).setCell ⟨B, 1, none⟩ (.slice A1 l1.length c1)).setCell ⟨B, 2, none⟩ (.slice A2 l2.length c2)) B q := by
  obtain ⟨A3, c3, l3, A4, c4, l4, e, h1, h2⟩ := h
  simp only [Value.agg.injEq, Array.mk.injEq, List.cons.injEq, and_true] at e
  obtain ⟨e1, e2, e3⟩ := e
  rw [e1, e2, e3]
  exact varq_set hX (fun z => ⟨by simp, by simp, by simp⟩) h1 h2
/-- a store into one box leaves what lies in the other one -/
theorem VarQ.far {w : World} {B B' : Nat} {p q : Rat} (h : VarQ w B p) (h2 : VarQ w B' q) (hB : B ≠ B') (a0 a1 a2 : Value) : VarQ (((w.setCell ⟨B', 0, none⟩ a0).setCell ⟨B', 1, none⟩ a1).setCell ⟨B', 2, none⟩ a2) B p := by
  obtain ⟨b, A1, d1, c1, A2, d2, c2, e⟩ := h2.raw
  exact varq_far h e (fun z => ⟨by simp, by simp, by simp⟩) hB
theorem VarQ.lt {w : World} {B : Nat} {q : Rat} (h : VarQ w B q) : B < w.heap.size := by
  obtain ⟨b, A1, d1, c1, A2, d2, c2, e⟩ := h.raw
  exact heap_lt e
/-- stored into the box of the result -/
theorem fq_ret {w0 w W : World} {B : Nat} {b : Bool} {A1 A2 : Option Addr} {c1 c2 : Nat} {l1 l2 : List Nat} {q : Rat} (hB : FBox w B) (h : FracR w (.agg #[.bool b, .slice A1 l1.length c1, .slice A2 l2.length c2]) q) (hbl : Below w0.heap.size w0 w) (h0 : w0.heap.size ≤ B) (hf : Fr (fun i => i = B) w W) : FracR W (.agg #[.bool b, .slice A1 l1.length c1, .slice A2 l2.length c2]) q ∧ Below w0.heap.size w0 W := by
  obtain ⟨A3, c3, l3, A4, c4, l4, e, h1, h2⟩ := h
  rw [e]
  exact frac_ret hB rfl h1 h2 hbl h0 hf
end Go.Proofs.YtpmnhdgajkickaaGreatDoor
