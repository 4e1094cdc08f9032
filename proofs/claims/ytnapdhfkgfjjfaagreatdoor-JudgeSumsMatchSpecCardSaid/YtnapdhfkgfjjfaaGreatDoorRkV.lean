/- What Ranks, Sums and Signs return, as values. -/
import Derived.Test.YtnapdhfkgfjjfaaGreatDoorR10Sgn
namespace Go.Proofs.YtnapdhfkgfjjfaaGreatDoor
open Go Go.RowKit Go.Proofs

def smV (a b : List Int) : Value := if smC a b 24 = 0 then .tuple #[.agg #[.int .i64 a.sum, .int .i64 (cntLe a.sum (chs (a ++ b) a.length) : Nat), .int .i64 (cntGe a.sum (chs (a ++ b) a.length) : Nat), .int .i64 ((chs (a ++ b) a.length).length : Nat)], .int .i64 0] else .tuple #[rkZ, .int .i64 (smC a b 24)]
theorem smP_val {a b : List Int} {w w' : World} {e : Ending} (h : smP a b w e w') : e = .returned (smV a b) ∧ Below w.heap.size w w' := by
  unfold smV
  rcases h with ⟨h1, h2, h3⟩ | ⟨h1, h2, h3⟩
  · rw [if_neg h1]; exact ⟨h2, h3⟩
  · rw [if_pos h1]; exact ⟨h2, h3⟩
def rkV (a b : List Int) : Value := if smC a b 40 = 0 then .tuple #[rkR a b, .int .i64 0] else .tuple #[rkZ, .int .i64 (smC a b 40)]
theorem rkP_val {a b : List Int} {w w' : World} {e : Ending} (h : rkP a b w e w') : e = .returned (rkV a b) ∧ Below w.heap.size w w' := by
  unfold rkV
  rcases h with ⟨h1, h2, h3⟩ | ⟨h1, h2, h3⟩
  · rw [if_neg h1]; exact ⟨h2, h3⟩
  · rw [if_pos h1]; exact ⟨h2, h3⟩
def Sh4 (v : Value) : Prop := ∃ v0 v1 v2 v3 c : Int, v = .tuple #[.agg #[.int .i64 v0, .int .i64 v1, .int .i64 v2, .int .i64 v3], .int .i64 c]
theorem smV_shape (a b : List Int) : Sh4 (smV a b) := by
  unfold smV
  split
  · exact ⟨_, _, _, _, _, rfl⟩
  · exact ⟨_, _, _, _, _, rfl⟩
theorem sgW_shape (a b : List Int) : Sh4 (sgW a b) := by
  unfold sgW
  split
  · exact ⟨_, _, _, _, _, rfl⟩
  · exact ⟨_, _, _, _, _, rfl⟩
theorem rkV_shape (a b : List Int) : Sh4 (rkV a b) := by
  unfold rkV
  split
  · exact ⟨_, _, _, _, _, rfl⟩
  · exact ⟨_, _, _, _, _, rfl⟩
/-- a box of four numbers -/
def R4 (w : World) (B : Nat) (a b c d : Int) : Prop := w.heap[B]? = some (.cells #[.int .i64 a, .int .i64 b, .int .i64 c, .int .i64 d] 24 (0, 0))
theorem R4.cells {w : World} {B : Nat} {a b c d : Int} (h : R4 w B a b c d) : w.cell? ⟨B, 0, none⟩ = some (.int .i64 a) ∧ w.cell? ⟨B, 1, none⟩ = some (.int .i64 b) ∧ w.cell? ⟨B, 2, none⟩ = some (.int .i64 c) ∧ w.cell? ⟨B, 3, none⟩ = some (.int .i64 d) :=
  ⟨by rw [cellsAt h]; rfl, by rw [cellsAt h]; rfl, by rw [cellsAt h]; rfl, by rw [cellsAt h]; rfl⟩
theorem R4.on {w w' : World} {B : Nat} {a b c d : Int} (h : R4 w B a b c d) (hb : Below w.heap.size w w') : R4 w' B a b c d := (hb.block B (heap_lt h)).trans h
theorem R4.far {w : World} {B O : Nat} {a b c d : Int} (h : R4 w B a b c d) (hO : B ≠ O) (v0 v1 v2 v3 : Value) : R4 ((((w.setCell ⟨O, 0, none⟩ v0).setCell ⟨O, 1, none⟩ v1).setCell ⟨O, 2, none⟩ v2).setCell ⟨O, 3, none⟩ v3) B a b c d := by
  unfold R4 at *
  rw [Below.heap_setCell _ _ _ _ hO, Below.heap_setCell _ _ _ _ hO, Below.heap_setCell _ _ _ _ hO, Below.heap_setCell _ _ _ _ hO]
  exact h
theorem R4.put {w : World} {B : Nat} {a b c d : Int} (h : R4 w B a b c d) (a' b' c' d' : Int) : R4 ((((w.setCell ⟨B, 0, none⟩ (.int .i64 a')).setCell ⟨B, 1, none⟩ (.int .i64 b')).setCell ⟨B, 2, none⟩ (.int .i64 c')).setCell ⟨B, 3, none⟩ (.int .i64 d')) B a' b' c' d' := by
  have h1 := rk_set h (i := 0) (.int .i64 a')
  have h2 := rk_set h1 (i := 1) (.int .i64 b')
  have h3 := rk_set h2 (i := 2) (.int .i64 c')
  exact rk_set h3 (i := 3) (.int .i64 d')
theorem R4.below {w0 w : World} {B : Nat} (h : Below w0.heap.size w0 w) (hB : w0.heap.size ≤ B) (v0 v1 v2 v3 : Value) : Below w0.heap.size w0 ((((w.setCell ⟨B, 0, none⟩ v0).setCell ⟨B, 1, none⟩ v1).setCell ⟨B, 2, none⟩ v2).setCell ⟨B, 3, none⟩ v3) :=
  (((h.setCell (p := ⟨B, 0, none⟩) hB v0).setCell (p := ⟨B, 1, none⟩) hB v1).setCell (p := ⟨B, 2, none⟩) hB v2).setCell (p := ⟨B, 3, none⟩) hB v3
end Go.Proofs.YtnapdhfkgfjjfaaGreatDoor
