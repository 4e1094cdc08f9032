/- Package judge: fractions in memory: plus, compare. Printed by gen_jfrac2.py. -/
import Derived.Test.YtnapdhfkgfjjfaaGreatDoorG22
namespace Go.Proofs.YtnapdhfkgfjjfaaGreatDoor
open Go Go.RowKit Go.Proofs


/-- box B holds a fraction -/
def JVar (w : World) (B : Nat) (b : Bool) (x y : Nat) : Prop := ∃ A1 c1 l1 A2 c2 l2, w.heap[B]? = some (.cells #[.bool b, .slice A1 (l1 : List Nat).length c1, .slice A2 (l2 : List Nat).length c2] 69 (0, 0)) ∧ NatR w A1 c1 l1 x ∧ NatR w A2 c2 l2 y
theorem JVar.on {w w' : World} {B : Nat} {b : Bool} {x y : Nat} (h : JVar w B b x y) (hb : Below w.heap.size w w') : JVar w' B b x y := by
  obtain ⟨A1, c1, l1, A2, c2, l2, e, h1, h2⟩ := h
  exact ⟨A1, c1, l1, A2, c2, l2, (hb.block B (heap_lt e)).trans e, h1.on hb, h2.on hb⟩
theorem JVar.lt {w : World} {B : Nat} {b : Bool} {x y : Nat} (h : JVar w B b x y) : B < w.heap.size := by
  obtain ⟨A1, c1, l1, A2, c2, l2, e, h1, h2⟩ := h
  exact heap_lt e
/-- what lies in such a box, as a value -/
theorem JVar.get {w : World} {B : Nat} {b : Bool} {x y : Nat} (h : JVar w B b x y) : ∃ A1 c1 l1 A2 c2 l2, (∀ W, Below w.heap.size w W → W.cell? ⟨B, 0, none⟩ = some (.bool b) ∧ W.cell? ⟨B, 1, none⟩ = some (.slice A1 (l1 : List Nat).length c1) ∧ W.cell? ⟨B, 2, none⟩ = some (.slice A2 (l2 : List Nat).length c2)) ∧ NatR w A1 c1 l1 x ∧ NatR w A2 c2 l2 y := by
  obtain ⟨A1, c1, l1, A2, c2, l2, e, h1, h2⟩ := h
  refine ⟨A1, c1, l1, A2, c2, l2, fun W hW => ?_, h1, h2⟩
  have e' := (hW.block B (heap_lt e)).trans e
  exact ⟨by rw [cellsAt e']; rfl, by rw [cellsAt e']; rfl, by rw [cellsAt e']; rfl⟩
theorem jvar_set {w : World} {B : Nat} {u0 u1 u2 : Value} {A1 A2 : Option Addr} {c1 c2 : Nat} {l1 l2 : List Nat} {b : Bool} {x y : Nat} (hX : w.heap[B]? = some (.cells #[u0, u1, u2] 69 (0, 0))) (hne : ∀ z, u0 ≠ .int .u64 z ∧ u1 ≠ .int .u64 z ∧ u2 ≠ .int .u64 z) (h1 : NatR w A1 c1 l1 x) (h2 : NatR w A2 c2 l2 y) :
    JVar (((w.setCell ⟨B, 0, none⟩ (.bool b)).setCell ⟨B, 1, none⟩ (.slice A1 l1.length c1)).setCell ⟨B, 2, none⟩ (.slice A2 l2.length c2)) B b x y := by
  have hf := fr3 (w := w) (B := B) (.bool b) (.slice A1 l1.length c1) (.slice A2 l2.length c2)
  have key : ∀ A c l x, NatR w A c l x → NatR (((w.setCell ⟨B, 0, none⟩ (.bool b)).setCell ⟨B, 1, none⟩ (.slice A1 l1.length c1)).setCell ⟨B, 2, none⟩ (.slice A2 l2.length c2)) A c l x := fun A c l x h => h.keepB hf.size (fun b o e hb hl => hf.block b hb (h.apartB hX (by intro v hv z; have := hne z; simp at hv; rcases hv with rfl | rfl | rfl <;> simp [this]) b o e hl))
  refine ⟨A1, c1, l1, A2, c2, l2, ?_, key _ _ _ _ h1, key _ _ _ _ h2⟩
  simp [World.setCell, Array.getElem?_modify, hX]
end Go.Proofs.YtnapdhfkgfjjfaaGreatDoor
