import Derived.Test.YtpmnhdgajkickaaGreatDoorB11
import Derived.Test.YtpmnhdgajkickaaGreatDoorL5
import Derived.Test.YtpmnhdgajkickaaGreatDoorB16
import Derived.Test.YtpmnhdgajkickaaGreatDoorB13
import Derived.Test.YtpmnhdgajkickaaGreatDoorB26
/- Package dynamometerref0: Over. Printed by gen_rover.py out of Times. -/
namespace Go.Proofs.YtpmnhdgajkickaaGreatDoor
open Go Go.RowKit Go.Proofs
end Go.Proofs.YtpmnhdgajkickaaGreatDoor

/- Sizes of sums, products, quotients of fractions. Plain. -/
namespace Go.Proofs.YtpmnhdgajkickaaGreatDoor
open Go Go.RowKit Go.Proofs

theorem sz_mk {b : Bool} {x y n : Nat} (hy : 0 < y) (hx : x < T4 ^ n) (hY : y < T4 ^ n) : Sz n (mkRat (sg b x) y) := mk_sz hy hx hY
theorem Sz.mono {n m : Nat} {q : Rat} (h : Sz n q) (hm : n ≤ m) : Sz m q := by
  have : T4 ^ n ≤ T4 ^ m := Nat.pow_le_pow_right (by unfold T4; omega) hm
  exact ⟨Nat.lt_of_lt_of_le h.1 this, Nat.lt_of_lt_of_le h.2 this⟩
theorem sz_int2 {k : Int} {n : Nat} (h : k.natAbs < T4 ^ n) (hn : 1 ≤ n) : Sz n (k : Rat) := by
  have e : (k : Rat) = mkRat (sg (decide (k < 0)) k.natAbs) 1 := by rw [sg_self]; exact (Rat.mkRat_self (k : Rat)).symm
  rw [e]
  exact sz_mk (by omega) h (Nat.lt_of_lt_of_le (show 1 < T4 ^ 1 by unfold T4; omega) (Nat.pow_le_pow_right (by unfold T4; omega) hn))
theorem sz_part2 {k : Int} {d n : Nat} (h : k.natAbs < T4 ^ n) (hd : 0 < d) (h2 : d < T4 ^ n) : Sz n (mkRat k d) := by
  rw [show k = sg (decide (k < 0)) k.natAbs from (sg_self k).symm]
  exact sz_mk hd h h2
theorem T4_small {x n : Nat} (h : x < 100000000) (hn : 2 ≤ n) : x < T4 ^ n := Nat.lt_of_lt_of_le (show x < T4 ^ 2 by unfold T4; omega) (Nat.pow_le_pow_right (by unfold T4; omega) hn)
end Go.Proofs.YtpmnhdgajkickaaGreatDoor

/- The reference's fractions as values and in boxes. -/
namespace Go.Proofs.YtpmnhdgajkickaaGreatDoor
open Go Go.RowKit Go.Proofs

theorem FracR.shape {w : World} {v : Value} {q : Rat} (h : FracR w v q) : ∃ b A1 c1 l1 A2 c2 l2, v = .agg #[.bool b, .slice A1 (l1 : List Nat).length c1, .slice A2 (l2 : List Nat).length c2] := by
  obtain ⟨A1, c1, l1, A2, c2, l2, h1, _⟩ := h
  exact ⟨_, A1, c1, l1, A2, c2, l2, h1⟩
theorem VarQ.get {w : World} {B : Nat} {q : Rat} (h : VarQ w B q) : ∃ b A1 c1 l1 A2 c2 l2, (∀ W, Below w.heap.size w W → W.cell? ⟨B, 0, none⟩ = some (.bool b) ∧ W.cell? ⟨B, 1, none⟩ = some (.slice A1 (l1 : List Nat).length c1) ∧ W.cell? ⟨B, 2, none⟩ = some (.slice A2 (l2 : List Nat).length c2) ∧ W.frozen? ⟨B, 0, none⟩ = false ∧ W.frozen? ⟨B, 1, none⟩ = false ∧ W.frozen? ⟨B, 2, none⟩ = false ∧ B < W.heap.size) ∧ FracR w (.agg #[.bool b, .slice A1 l1.length c1, .slice A2 l2.length c2]) q := by
  obtain ⟨A1, c1, l1, A2, c2, l2, e, h1, h2⟩ := h
  refine ⟨_, A1, c1, l1, A2, c2, l2, fun W hW => ?_, A1, c1, l1, A2, c2, l2, rfl, h1, h2⟩
  have e' := (hW.block B (heap_lt e)).trans e
  exact ⟨by rw [cellsAt e']; rfl, by rw [cellsAt e']; rfl, by rw [cellsAt e']; rfl, frozenAt e' 0, frozenAt e' 1, frozenAt e' 2, heap_lt e'⟩
theorem VarQ.raw {w : World} {B : Nat} {q : Rat} (h : VarQ w B q) : ∃ b A1 d1 c1 A2 d2 c2, w.heap[B]? = some (.cells #[.bool b, .slice A1 d1 c1, .slice A2 d2 c2] 35 (0, 0)) := by
  obtain ⟨A1, c1, l1, A2, c2, l2, e, h1, h2⟩ := h
  exact ⟨_, _, _, _, _, _, _, e⟩
theorem VarQ.laid {w : World} {b : Bool} {A1 A2 : Option Addr} {c1 c2 : Nat} {l1 l2 : List Nat} {q : Rat} (h : FracR w (.agg #[.bool b, .slice A1 l1.length c1, .slice A2 l2.length c2]) q) : VarQ (w.alloc (.cells #[.bool b, .slice A1 l1.length c1, .slice A2 l2.length c2] 35)) w.heap.size q := by
  obtain ⟨A3, c3, l3, A4, c4, l4, e, h1, h2⟩ := h
  have hb : Below w.heap.size w (w.alloc (.cells #[.bool b, .slice A1 l1.length c1, .slice A2 l2.length c2] 35)) := (Below.refl _ w).alloc (Nat.le_refl _) _
  refine ⟨A3, c3, l3, A4, c4, l4, ?_, h1.on hb, h2.on hb⟩
  simp only [Value.agg.injEq, Array.mk.injEq, List.cons.injEq, and_true] at e
  obtain ⟨e1, e2, e3⟩ := e
  rw [e1, e2, e3]
  exact alloc_at _ _ _ rfl
theorem VarQ.store {w : World} {B : Nat} {b b0 : Bool} {A1 A2 : Option Addr} {c1 c2 : Nat} {l1 l2 : List Nat} {B1 B2 : Option Addr} {d1 d2 e1 e2 : Nat} {q : Rat} (hX : w.heap[B]? = some (.cells #[.bool b0, .slice B1 d1 e1, .slice B2 d2 e2] 35 (0, 0))) (h : FracR w (.agg #[.bool b, .slice A1 l1.length c1, .slice A2 l2.length c2]) q) :
    VarQ (((w.setCell ⟨B, 0, none⟩ (.bool b)).setCell ⟨B, 1, none⟩ (.slice A1 l1.length c1)).setCell ⟨B, 2, none⟩ (.slice A2 l2.length c2)) B q := by
  obtain ⟨A3, c3, l3, A4, c4, l4, e, h1, h2⟩ := h
  simp only [Value.agg.injEq, Array.mk.injEq, List.cons.injEq, and_true] at e
  obtain ⟨e1, e2, e3⟩ := e
  rw [e1, e2, e3]
  exact varq_set hX (fun z => ⟨by simp, by simp, by simp⟩) h1 h2
/-- a store into one box leaves what lies in the other one -/
theorem VarQ.far {w : World} {B B' : Nat} {p q : Rat} (h : VarQ w B p) (h2 : VarQ w B' q) (hB : B ≠ B') (a0 a1 a2 : Value) : VarQ (((w.setCell ⟨B', 0, none⟩ a0).setCell ⟨B', 1, none⟩ a1).setCell ⟨B', 2, none⟩ a2) B p := by
  obtain ⟨b, A1, d1, c1, A2, d2, c2, e⟩ := h2.raw
  exact varq_far h e (fun z => ⟨by simp, by simp, by simp⟩) hB
theorem VarQ.lt {w : World} {B : Nat} {q : Rat} (h : VarQ w B q) : B < w.heap.size := by
  obtain ⟨b, A1, d1, c1, A2, d2, c2, e⟩ := h.raw
  exact heap_lt e
end Go.Proofs.YtpmnhdgajkickaaGreatDoor
