import Derived.Test.YtepfmoaihhonlaaGreatDoorFracPlus
/- Fractions in variables that lie in memory. -/
namespace Go.Proofs.YtepfmoaihhonlaaGreatDoor
open Go Go.RowKit Go.Proofs

/-- box B holds the fraction q -/
def VarQ (w : World) (B : Nat) (q : Rat) : Prop := ∃ A1 c1 l1 A2 c2 l2, w.heap[B]? = some (.cells #[.bool (frS q), .slice A1 l1.length c1, .slice A2 l2.length c2] 39 (0, 0)) ∧ RNatR w A1 c1 l1 (frN q) ∧ RNatR w A2 c2 l2 q.den
theorem VarQ.on {w w' : World} {B : Nat} {q : Rat} (h : VarQ w B q) (hb : Below w.heap.size w w') : VarQ w' B q := by
  obtain ⟨A1, c1, l1, A2, c2, l2, e, h1, h2⟩ := h
  exact ⟨A1, c1, l1, A2, c2, l2, (hb.block B (heap_lt e)).trans e, h1.on hb, h2.on hb⟩
theorem below_realloc {B : Nat} {w x : World} {Z Y : Obj} (h : Below B w (x.alloc Z)) (hB : B ≤ x.heap.size) : Below B w (x.alloc Y) := ⟨h.os, h.tape, h.output, by simpa using h.size, fun k hk => by
  have := h.block k hk
  rw [Below.heap_alloc _ _ _ (by omega)] at this ⊢
  exact this⟩
theorem varq_set {w : World} {B : Nat} {u0 u1 u2 : Value} {A1 A2 : Option Addr} {c1 c2 : Nat} {l1 l2 : List Nat} {q : Rat} (hX : w.heap[B]? = some (.cells #[u0, u1, u2] 39 (0, 0))) (hne : ∀ z, u0 ≠ .int .i64 z ∧ u1 ≠ .int .i64 z ∧ u2 ≠ .int .i64 z) (h1 : RNatR w A1 c1 l1 (frN q)) (h2 : RNatR w A2 c2 l2 q.den) :
    VarQ (((w.setCell ⟨B, 0, none⟩ (.bool (frS q))).setCell ⟨B, 1, none⟩ (.slice A1 l1.length c1)).setCell ⟨B, 2, none⟩ (.slice A2 l2.length c2)) B q := by
  have hf := fr3 (w := w) (B := B) (.bool (frS q)) (.slice A1 l1.length c1) (.slice A2 l2.length c2)
  have key : ∀ A c l x, RNatR w A c l x → RNatR (((w.setCell ⟨B, 0, none⟩ (.bool (frS q))).setCell ⟨B, 1, none⟩ (.slice A1 l1.length c1)).setCell ⟨B, 2, none⟩ (.slice A2 l2.length c2)) A c l x := fun A c l x h => h.keep hf.size (fun b o e hb hl => hf.block b hb (h.apart hX (by intro v hv z; have := hne z; simp at hv; rcases hv with rfl | rfl | rfl <;> simp [this]) b o e hl))
  refine ⟨A1, c1, l1, A2, c2, l2, ?_, key _ _ _ _ h1, key _ _ _ _ h2⟩
  simp [World.setCell, Array.getElem?_modify, hX]
/-- a store into a box of three cells that are no integers leaves the others as they are -/
theorem varq_far {w : World} {B B' : Nat} {u0 u1 u2 a0 a1 a2 : Value} {q : Rat} (h : VarQ w B q) (hX : w.heap[B']? = some (.cells #[u0, u1, u2] 39 (0, 0))) (hne : ∀ z, u0 ≠ .int .i64 z ∧ u1 ≠ .int .i64 z ∧ u2 ≠ .int .i64 z) (hB : B ≠ B') :
    VarQ (((w.setCell ⟨B', 0, none⟩ a0).setCell ⟨B', 1, none⟩ a1).setCell ⟨B', 2, none⟩ a2) B q := by
  have hf := fr3 (w := w) (B := B') a0 a1 a2
  have key : ∀ A c l x, RNatR w A c l x → RNatR (((w.setCell ⟨B', 0, none⟩ a0).setCell ⟨B', 1, none⟩ a1).setCell ⟨B', 2, none⟩ a2) A c l x := fun A c l x h => h.keep hf.size (fun b o e hb hl => hf.block b hb (h.apart hX (by intro v hv z; have := hne z; simp at hv; rcases hv with rfl | rfl | rfl <;> simp [this]) b o e hl))
  obtain ⟨A1, c1, l1, A2, c2, l2, e, h1, h2⟩ := h
  exact ⟨A1, c1, l1, A2, c2, l2, (hf.block B (heap_lt e) hB).trans e, key _ _ _ _ h1, key _ _ _ _ h2⟩
end Go.Proofs.YtepfmoaihhonlaaGreatDoor

/- Package dynamometerref0: Order, Floor, Int. -/
namespace Go.Proofs.YtepfmoaihhonlaaGreatDoor
open Go Go.RowKit Go.Proofs

theorem sgnQ_sub (a b : Rat) : sgnQ (a - b) = ordQ a b := ordQ_eq a b
set_option maxHeartbeats 2000000 in
set_option maxRecDepth 100000 in
theorem rOrder_any (n : Nat) (u v : Value) (a b : Rat) (w : World) (hn : n ≤ 400000) (ha : FracR w u a) (hb : FracR w v b) (hsa : Sz n a) (hsb : Sz n b) :
    Calls Tryz.prog 22 #[u, v] w fun e w' => e = .returned (.int .i64 (ordQ a b)) ∧ Below w.heap.size w w' := by
  have HFA := Lib.hid ha
  have HFB := Lib.hid hb
  obtain ⟨A1, c1, l1, A2, c2, l2, rfl, ha1, ha2⟩ := ha
  obtain ⟨A3, c3, l3, A4, c4, l4, rfl, hb1, hb2⟩ := hb
  have HL := Lib.hid (fun W (hb : Below w.heap.size w W) => rLess_any n _ _ a b W hn (HFA.out.on hb) (HFB.out.on hb) hsa hsb)
  have HS := Lib.hid (fun W v (h : FracR W v (a - b)) => rSign_any v (a - b) W h)
  rw [sgnQ_sub] at HS
  have hbl := two_on (w := w) (.cells #[.bool (frS a), .slice A1 l1.length c1, .slice A2 l2.length c2] 39) (.cells #[.bool (frS b), .slice A3 l3.length c3, .slice A4 l4.length c4] 39)
  have HBL := Lib.hid hbl
  clear ha1 ha2 hb1 hb2 hbl hsa hsb
  go_enter Tryz.func22, Tryz.ntmps22
  go_wp2_with fail
  refine (HL.out _ HBL.out).mono ?_
  rintro e w1 ⟨v1, rfl, hv1, hb1⟩
  have HS1 := Lib.hid (HS.out w1 v1 hv1)
  have HB1 := Lib.hid (below_next HBL.out hb1)
  clear hv1 hb1
  go_wp2_with fail
  refine HS1.out.mono ?_
  rintro e w2 ⟨rfl, hb2⟩
  have HB2 := Lib.hid (below_next HB1.out hb2)
  clear hb2
  go_wp2
  go_ret
  exact ⟨rfl, HB2.out⟩

/-- what Int tells -/
def intV (x : Nat) (most : Int) : Value := if most.toNat < x then .tuple #[.int .i64 0, .bool false] else .tuple #[.int .i64 (x : Int), .bool true]
theorem val_drop_le (l : List Nat) (k : Nat) : val T4 (l.drop k) ≤ val T4 l := by
  induction l generalizing k with
  | nil => simp
  | cons d l ih =>
    cases k with
    | zero => simp
    | succ k =>
      have := ih k
      simp only [List.drop_succ_cons, val]
      have h2 : val T4 l ≤ T4 * val T4 l := Nat.le_mul_of_pos_left _ (by unfold T4; omega)
      omega
end Go.Proofs.YtepfmoaihhonlaaGreatDoor
