import Derived.Test.YtnapdhfkgfjjfaaGreatDoorRDivMod
import Derived.Deep.LoopGhost
import Derived.Test.YtnapdhfkgfjjfaaGreatDoorG0
import Derived.Test.YtnapdhfkgfjjfaaGreatDoorG2
import Derived.Deep.RegionHeld3
import Derived.Deep.CutRange
import Derived.Test.YtnapdhfkgfjjfaaGreatDoorG15
/- Package dynamometerref0: Gcd. -/
namespace Go.Proofs.YtnapdhfkgfjjfaaGreatDoor
open Go Go.RowKit Go.Proofs

end Go.Proofs.YtnapdhfkgfjjfaaGreatDoor

/- Package dynamometerref0: fractions in memory; Lowest, Part, Whole. -/
namespace Go.Proofs.YtnapdhfkgfjjfaaGreatDoor
open Go Go.RowKit Go.Proofs

/-- a value that is a fraction -/
def FracR (w : World) (v : Value) (q : Rat) : Prop :=
  ∃ A1 c1 l1 A2 c2 l2, v = .agg #[.bool (frS q), .slice A1 l1.length c1, .slice A2 l2.length c2] ∧ RNatR w A1 c1 l1 (frN q) ∧ RNatR w A2 c2 l2 q.den
theorem FracR.on {w w' : World} {v : Value} {q : Rat} (h : FracR w v q) (hb : Below w.heap.size w w') : FracR w' v q := by
  obtain ⟨A1, c1, l1, A2, c2, l2, e, h1, h2⟩ := h
  exact ⟨A1, c1, l1, A2, c2, l2, e, h1.on hb, h2.on hb⟩
theorem RNatR.len {w : World} {A : Option Addr} {c : Nat} {l : List Nat} {x n : Nat} (h : RNatR w A c l x) (hx : x < T4 ^ n) : l.length ≤ n := rlen_lt h.norm h.val hx
/-- the box of a result that is a fraction, as it is laid -/
def FBox (w : World) (B : Nat) : Prop := w.heap[B]? = some (.cells #[.bool false, .slice none 0 0, .slice none 0 0] 42 (0, 0))
theorem FBox.facts {w : World} {B : Nat} (h : FBox w B) : w.cell? ⟨B, 0, none⟩ = some (.bool false) ∧ w.cell? ⟨B, 1, none⟩ = some (.slice none 0 0) ∧ w.cell? ⟨B, 2, none⟩ = some (.slice none 0 0) ∧ w.frozen? ⟨B, 0, none⟩ = false ∧ w.frozen? ⟨B, 1, none⟩ = false ∧ w.frozen? ⟨B, 2, none⟩ = false ∧ B < w.heap.size :=
  ⟨by rw [cellsAt h]; rfl, by rw [cellsAt h]; rfl, by rw [cellsAt h]; rfl, frozenAt h 0, frozenAt h 1, frozenAt h 2, heap_lt h⟩
theorem FBox.on {w w' : World} {B : Nat} (h : FBox w B) (hb : Below w.heap.size w w') : FBox w' B := (hb.block B (heap_lt h)).trans h
theorem fr3 {w : World} {B : Nat} (u v z : Value) : Fr (fun i => i = B) w (((w.setCell ⟨B, 0, none⟩ u).setCell ⟨B, 1, none⟩ v).setCell ⟨B, 2, none⟩ z) :=
  (((Fr.refl (fun i => i = B) w).setCell (fun _ => rfl) _).setCell (fun _ => rfl) _).setCell (fun _ => rfl) _

end Go.Proofs.YtnapdhfkgfjjfaaGreatDoor

/- Package dynamometerref0: fractions: Part, Whole, Minus, Plus, Less, Times, Sign, Order, Floor. Printed by gen_frac.py. -/
namespace Go.Proofs.YtnapdhfkgfjjfaaGreatDoor
open Go Go.RowKit Go.Proofs

end Go.Proofs.YtnapdhfkgfjjfaaGreatDoor
