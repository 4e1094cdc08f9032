/- Package judge: fractions as rational numbers: plus, opposite, times, over, lowest, compare, ratio. -/
import Derived.Test.YtpmnhdgajkickaaGreatDoorJArith
import Derived.Test.YtpmnhdgajkickaaGreatDoorJRatio
namespace Go.Proofs.YtpmnhdgajkickaaGreatDoor
open Go Go.RowKit Go.Proofs

/-- a value that is a fraction with the value q, its parts below W64^n -/
def JQ (w : World) (v : Value) (q : Rat) (n : Nat) : Prop := ∃ b x y, JF w v b x y ∧ mkRat (sg b x) y = q ∧ x < W64 ^ n ∧ y < W64 ^ n ∧ 0 < y
theorem JQ.on {w w' : World} {v : Value} {q : Rat} {n : Nat} (h : JQ w v q n) (hb : Below w.heap.size w w') : JQ w' v q n := by
  obtain ⟨b, x, y, h1, h2⟩ := h
  exact ⟨b, x, y, h1.on hb, h2⟩
theorem W64_mono {x n m : Nat} (h : x < W64 ^ n) (hm : n ≤ m) : x < W64 ^ m := Nat.lt_of_lt_of_le h (Nat.pow_le_pow_right (by unfold W64; omega) hm)
theorem JQ.mono {w : World} {v : Value} {q : Rat} {n m : Nat} (h : JQ w v q n) (hm : n ≤ m) : JQ w v q m := by
  obtain ⟨b, x, y, h1, h2, h3, h4, h5⟩ := h
  exact ⟨b, x, y, h1, h2, W64_mono h3 hm, W64_mono h4 hm, h5⟩
theorem JQ.shape {w : World} {v : Value} {q : Rat} {n : Nat} (h : JQ w v q n) : ∃ b A1 c1 l1 A2 c2 l2, v = .agg #[.bool b, .slice A1 (l1 : List Nat).length c1, .slice A2 (l2 : List Nat).length c2] := by
  obtain ⟨b, x, y, ⟨A1, c1, l1, A2, c2, l2, h1, _⟩, _⟩ := h
  exact ⟨b, A1, c1, l1, A2, c2, l2, h1⟩
theorem JQ.of {w : World} {v : Value} {q : Rat} {n : Nat} (h : JF w v (frS q) (frN q) q.den) (h1 : frN q < W64 ^ n) (h2 : q.den < W64 ^ n) : JQ w v q n := ⟨_, _, _, h, fr_eq q, h1, h2, q.den_pos⟩
def JQPost (q : Rat) (n : Nat) (w : World) (e : Ending) (w' : World) : Prop := ∃ v, e = .returned v ∧ JQ w' v q n ∧ Below w.heap.size w w'
theorem W64_mul {a b s t : Nat} (h1 : a < W64 ^ s) (h2 : b < W64 ^ t) : a * b < W64 ^ (s + t) := by rw [Nat.pow_add]; exact Nat.mul_lt_mul'' h1 h2
theorem pl_lt2 {b1 b2 : Bool} {x1 y1 x2 y2 n m : Nat} (hx1 : x1 < W64 ^ n) (hy1 : y1 < W64 ^ n) (hx2 : x2 < W64 ^ m) (hy2 : y2 < W64 ^ m) : plX b1 x1 y1 b2 x2 y2 < W64 ^ (n + m + 1) := by
  have h1 : x1 * y2 < W64 ^ (n + m) := W64_mul hx1 hy2
  have h2 : x2 * y1 < W64 ^ (n + m) := by rw [Nat.mul_comm]; exact W64_mul hy1 hx2
  rw [Nat.pow_succ]
  generalize W64 ^ (n + m) = P at *
  have hP : P * 2 ≤ P * W64 := Nat.mul_le_mul_left _ (by unfold W64; omega)
  unfold plX
  split
  · omega
  · split <;> omega
theorem jPlusQ (n m : Nat) (u v : Value) (p q : Rat) (w : World) (hn : n ≤ 200000) (hm : m ≤ 200000) (hu : JQ w u p n) (hv : JQ w v q m) : Calls Tryz.prog 99 #[u, v] w (JQPost (p + q) (n + m + 1) w) := by
  obtain ⟨b1, x1, y1, h1, e1, g1, k1, p1⟩ := hu
  obtain ⟨b2, x2, y2, h2, e2, g2, k2, p2⟩ := hv
  refine (jPlus_any (n + m) u v b1 b2 x1 y1 x2 y2 w (by omega) h1 h2 (W64_mono g1 (by omega)) (W64_mono k1 (by omega)) (W64_mono g2 (by omega)) (W64_mono k2 (by omega))).mono fun e w' ⟨z, he, hz, hb⟩ => ⟨z, he, ⟨_, _, _, hz, ?_, pl_lt2 g1 k1 g2 k2, W64_mono (W64_mul k1 k2) (by omega), Nat.mul_pos p1 p2⟩, hb⟩
  rw [pl_eq _ _ _ _ p1 p2, e1, e2]
theorem jOppQ (n : Nat) (u : Value) (p : Rat) (w : World) (hu : JQ w u p n) : Calls Tryz.prog 76 #[u] w (JQPost (-p) n w) := by
  obtain ⟨b1, x1, y1, h1, e1, g1, k1, p1⟩ := hu
  refine (jOpp_any u b1 x1 y1 w h1).mono fun e w' ⟨z, he, hz, hb⟩ => ⟨z, he, ⟨_, _, _, hz, ?_, g1, k1, p1⟩, hb⟩
  rw [opp_eq, e1]
theorem jTimesQ (n m : Nat) (u v : Value) (p q : Rat) (w : World) (hn : n ≤ 200000) (hm : m ≤ 200000) (hu : JQ w u p n) (hv : JQ w v q m) : Calls Tryz.prog 75 #[u, v] w (JQPost (p * q) (n + m) w) := by
  obtain ⟨b1, x1, y1, h1, e1, g1, k1, p1⟩ := hu
  obtain ⟨b2, x2, y2, h2, e2, g2, k2, p2⟩ := hv
  refine (jTimes_any (n + m) u v b1 b2 x1 y1 x2 y2 w (by omega) h1 h2 (W64_mono g1 (by omega)) (W64_mono k1 (by omega)) (W64_mono g2 (by omega)) (W64_mono k2 (by omega))).mono fun e w' ⟨z, he, hz, hb⟩ => ⟨z, he, ⟨_, _, _, hz, ?_, W64_mul g1 g2, W64_mul k1 k2, Nat.mul_pos p1 p2⟩, hb⟩
  rw [tm_eq, e1, e2]
theorem jOverQ (n m : Nat) (u v : Value) (p q : Rat) (w : World) (hn : n ≤ 200000) (hm : m ≤ 200000) (hu : JQ w u p n) (hv : JQ w v q m) (hq : q ≠ 0) : Calls Tryz.prog 73 #[u, v] w (JQPost (p / q) (n + m) w) := by
  obtain ⟨b1, x1, y1, h1, e1, g1, k1, p1⟩ := hu
  obtain ⟨b2, x2, y2, h2, e2, g2, k2, p2⟩ := hv
  have hx2 : 0 < x2 := by
    rcases Nat.eq_zero_or_pos x2 with h0 | h0
    · subst h0
      rw [low_zero] at e2
      exact absurd e2.symm hq
    · exact h0
  refine (jOver_any (n + m) u v b1 b2 x1 y1 x2 y2 w (by omega) h1 h2 (W64_mono g1 (by omega)) (W64_mono k1 (by omega)) (W64_mono g2 (by omega)) (W64_mono k2 (by omega))).mono fun e w' ⟨z, he, hz, hb⟩ => ⟨z, he, ⟨_, _, _, hz, ?_, W64_mul g1 k2, W64_mul k1 g2, Nat.mul_pos p1 hx2⟩, hb⟩
  rw [ov_eq _ _ _ hx2 p2, e1, e2]
theorem jLowestQ (n : Nat) (u : Value) (p : Rat) (w : World) (hn : n ≤ 900000) (hu : JQ w u p n) : Calls Tryz.prog 81 #[u] w (JFPost (frS p) (frN p) p.den w) := by
  obtain ⟨b1, x1, y1, h1, e1, g1, k1, p1⟩ := hu
  have := jLowest_any u b1 x1 y1 n w h1 g1 k1 hn p1
  rw [e1] at this
  exact this
theorem jCompareQ (n m : Nat) (u v : Value) (p q : Rat) (w : World) (hn : n ≤ 200000) (hm : m ≤ 200000) (hu : JQ w u p n) (hv : JQ w v q m) : Calls Tryz.prog 64 #[u, v] w fun e w' => e = .returned (.int .i64 (ordQ p q)) ∧ Below w.heap.size w w' := by
  obtain ⟨b1, x1, y1, h1, e1, g1, k1, p1⟩ := hu
  obtain ⟨b2, x2, y2, h2, e2, g2, k2, p2⟩ := hv
  have := jCompare_any (n + m) u v b1 b2 x1 y1 x2 y2 w (by omega) h1 h2 (W64_mono g1 (by omega)) (W64_mono k1 (by omega)) (W64_mono g2 (by omega)) (W64_mono k2 (by omega)) p1 p2
  rw [e1, e2] at this
  exact this
theorem jRatioQ (n : Nat) (u : Value) (p : Rat) (w : World) (hn : n ≤ 1000) (hu : JQ w u p n) (htab : Tab w.heap.size w) : Calls Tryz.prog 47 #[u] w fun e w' => e = .returned (.tuple #[ratOf (rtT p), .int .i64 (rtC p)]) ∧ Below w.heap.size w w' := by
  obtain ⟨b1, x1, y1, h1, e1, g1, k1, p1⟩ := hu
  have := jRatio_any u b1 x1 y1 n w h1 g1 k1 hn p1 htab
  rw [e1] at this
  exact this
theorem jWholeQ (k : Int) (w : World) (h0 : -9223372036854775807 ≤ k) (h1 : k ≤ 9223372036854775807) : Calls Tryz.prog 65 #[.int .i64 k] w (JQPost (k : Rat) 1 w) := by
  refine (jWhole_any k w h0 h1).mono fun e w' ⟨z, he, hz, hb⟩ => ⟨z, he, ⟨_, _, _, hz, ?_, W64_gt _ (by omega), W64_gt _ (by omega), by omega⟩, hb⟩
  rw [sg_self]
  exact Rat.mkRat_self (k : Rat)

/-- box B holds a fraction with the value p -/
def JVQ (w : World) (B : Nat) (p : Rat) (n : Nat) : Prop := ∃ b A1 c1 l1 A2 c2 l2, w.heap[B]? = some (.cells #[.bool b, .slice A1 (l1 : List Nat).length c1, .slice A2 (l2 : List Nat).length c2] 53 (0, 0)) ∧ JQ w (.agg #[.bool b, .slice A1 l1.length c1, .slice A2 l2.length c2]) p n
theorem JVQ.on {w w' : World} {B : Nat} {p : Rat} {n : Nat} (h : JVQ w B p n) (hb : Below w.heap.size w w') : JVQ w' B p n := by
  obtain ⟨b, A1, c1, l1, A2, c2, l2, e, h1⟩ := h
  exact ⟨b, A1, c1, l1, A2, c2, l2, (hb.block B (heap_lt e)).trans e, h1.on hb⟩
theorem JVQ.lt {w : World} {B : Nat} {p : Rat} {n : Nat} (h : JVQ w B p n) : B < w.heap.size := by
  obtain ⟨b, A1, c1, l1, A2, c2, l2, e, h1⟩ := h
  exact heap_lt e
/-- what lies in such a box, as a value -/
theorem JVQ.get {w : World} {B : Nat} {p : Rat} {n : Nat} (h : JVQ w B p n) : ∃ b A1 c1 l1 A2 c2 l2, (∀ W, Below w.heap.size w W → W.cell? ⟨B, 0, none⟩ = some (.bool b) ∧ W.cell? ⟨B, 1, none⟩ = some (.slice A1 (l1 : List Nat).length c1) ∧ W.cell? ⟨B, 2, none⟩ = some (.slice A2 (l2 : List Nat).length c2) ∧ W.frozen? ⟨B, 0, none⟩ = false ∧ W.frozen? ⟨B, 1, none⟩ = false ∧ W.frozen? ⟨B, 2, none⟩ = false ∧ B < W.heap.size) ∧ JQ w (.agg #[.bool b, .slice A1 l1.length c1, .slice A2 l2.length c2]) p n := by
  obtain ⟨b, A1, c1, l1, A2, c2, l2, e, h1⟩ := h
  refine ⟨b, A1, c1, l1, A2, c2, l2, fun W hW => ?_, h1⟩
  have e' := (hW.block B (heap_lt e)).trans e
  exact ⟨by rw [cellsAt e']; rfl, by rw [cellsAt e']; rfl, by rw [cellsAt e']; rfl, frozenAt e' 0, frozenAt e' 1, frozenAt e' 2, heap_lt e'⟩
/-- a value laid in a box of its own -/
theorem JVQ.laid {w : World} {b : Bool} {A1 A2 : Option Addr} {c1 c2 : Nat} {l1 l2 : List Nat} {p : Rat} {n : Nat} (h : JQ w (.agg #[.bool b, .slice A1 l1.length c1, .slice A2 l2.length c2]) p n) : JVQ (w.alloc (.cells #[.bool b, .slice A1 l1.length c1, .slice A2 l2.length c2] 53)) w.heap.size p n :=
  ⟨b, A1, c1, l1, A2, c2, l2, alloc_at _ _ _ rfl, h.on ((Below.refl _ w).alloc (Nat.le_refl _) _)⟩
/-- a value stored into a box -/
theorem JVQ.set {w : World} {B : Nat} {b b0 : Bool} {A1 A2 : Option Addr} {c1 c2 : Nat} {l1 l2 : List Nat} {B1 B2 : Option Addr} {d1 d2 e1 e2 : Nat} {p : Rat} {n : Nat} (hX : w.heap[B]? = some (.cells #[.bool b0, .slice B1 d1 e1, .slice B2 d2 e2] 53 (0, 0))) (h : JQ w (.agg #[.bool b, .slice A1 l1.length c1, .slice A2 l2.length c2]) p n) :
    JVQ (((w.setCell ⟨B, 0, none⟩ (.bool b)).setCell ⟨B, 1, none⟩ (.slice A1 l1.length c1)).setCell ⟨B, 2, none⟩ (.slice A2 l2.length c2)) B p n := by
  obtain ⟨s, x, y, ⟨A3, c3, l3, A4, c4, l4, e, h1, h2⟩, h3⟩ := h
  simp only [Value.agg.injEq, Array.mk.injEq, List.cons.injEq, Value.bool.injEq, Value.slice.injEq, and_true] at e
  obtain ⟨rfl, ⟨rfl, g1, rfl⟩, ⟨rfl, g2, rfl⟩⟩ := e
  rw [g1, g2]
  obtain ⟨A5, c5, l5, A6, c6, l6, e5, h5, h6⟩ := jvar_set (b := b) hX (fun z => ⟨by simp, by simp, by simp⟩) h1 h2
  exact ⟨b, A5, c5, l5, A6, c6, l6, e5, b, x, y, ⟨A5, c5, l5, A6, c6, l6, rfl, h5, h6⟩, h3⟩
/-- stored into the box of the result -/
theorem jq_ret {w0 w W : World} {B : Nat} {v : Value} {p : Rat} {n : Nat} (hB : JBox w B) (h : JQ w v p n) (hbl : Below w0.heap.size w0 w) (h0 : w0.heap.size ≤ B) (hf : Fr (fun i => i = B) w W) : JQ W v p n ∧ Below w0.heap.size w0 W := by
  obtain ⟨s, x, y, h1, h2⟩ := h
  have := jf_ret hB h1 hbl h0 hf
  exact ⟨⟨s, x, y, this.1, h2⟩, this.2⟩
end Go.Proofs.YtpmnhdgajkickaaGreatDoor
