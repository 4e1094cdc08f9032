import Derived.Test.YtlkjgjojahjapaaGreatDoorG31
import Derived.Test.YtlkjgjojahjapaaGreatDoorG27
import Derived.Test.YtlkjgjojahjapaaGreatDoorG30
import Derived.Test.YtlkjgjojahjapaaGreatDoorG9
import Derived.Test.YtlkjgjojahjapaaGreatDoorG17
import Derived.Test.YtlkjgjojahjapaaGreatDoorG15
/- Package judge: fractions as rational numbers: plus, opposite, times, over, lowest, compare, ratio. -/
namespace Go.Proofs.YtlkjgjojahjapaaGreatDoor
open Go Go.RowKit Go.Proofs

/-- a value that is a fraction with the value q, its parts below W64^n -/
def JQ (w : World) (v : Value) (q : Rat) (n : Nat) : Prop := ∃ b x y, JF w v b x y ∧ mkRat (sg b x) y = q ∧ x < W64 ^ n ∧ y < W64 ^ n ∧ 0 < y
theorem JQ.on {w w' : World} {v : Value} {q : Rat} {n : Nat} (h : JQ w v q n) (hb : Below w.heap.size w w') : JQ w' v q n := by
  obtain ⟨b, x, y, h1, h2⟩ := h
  exact ⟨b, x, y, h1.on hb, h2⟩
theorem W64_mono {x n m : Nat} (h : x < W64 ^ n) (hm : n ≤ m) : x < W64 ^ m := Nat.lt_of_lt_of_le h (Nat.pow_le_pow_right (by unfold W64; omega) hm)
theorem JQ.mono {w : World} {v : Value} {q : Rat} {n m : Nat} (h : JQ w v q n) (hm : n ≤ m) : JQ w v q m := by
  obtain ⟨b, x, y, h1, h2, h3, h4, h5⟩ := h
  exact ⟨b, x, y, h1, h2, W64_mono h3 hm, W64_mono h4 hm, h5⟩
theorem JQ.shape {w : World} {v : Value} {q : Rat} {n : Nat} (h : JQ w v q n) : ∃ b A1 c1 l1 A2 c2 l2, v = .agg #[.bool b, .slice A1 (l1 : List Nat).length c1, .slice A2 (l2 : List Nat).length c2] := by
  obtain ⟨b, x, y, ⟨A1, c1, l1, A2, c2, l2, h1, _⟩, _⟩ := h
  exact ⟨b, A1, c1, l1, A2, c2, l2, h1⟩
theorem JQ.of {w : World} {v : Value} {q : Rat} {n : Nat} (h : JF w v (frS q) (frN q) q.den) (h1 : frN q < W64 ^ n) (h2 : q.den < W64 ^ n) : JQ w v q n := ⟨_, _, _, h, fr_eq q, h1, h2, q.den_pos⟩
theorem W64_mul {a b s t : Nat} (h1 : a < W64 ^ s) (h2 : b < W64 ^ t) : a * b < W64 ^ (s + t) := by rw [Nat.pow_add]; exact Nat.mul_lt_mul'' h1 h2
theorem jCompareQ (n m : Nat) (u v : Value) (p q : Rat) (w : World) (hn : n ≤ 200000) (hm : m ≤ 200000) (hu : JQ w u p n) (hv : JQ w v q m) : Calls Tryz.prog 77 #[u, v] w fun e w' => e = .returned (.int .i64 (ordQ p q)) ∧ Below w.heap.size w w' := by
  obtain ⟨b1, x1, y1, h1, e1, g1, k1, p1⟩ := hu
  obtain ⟨b2, x2, y2, h2, e2, g2, k2, p2⟩ := hv
  have := jCompare_any (n + m) u v b1 b2 x1 y1 x2 y2 w (by omega) h1 h2 (W64_mono g1 (by omega)) (W64_mono k1 (by omega)) (W64_mono g2 (by omega)) (W64_mono k2 (by omega)) p1 p2
  rw [e1, e2] at this
  exact this
theorem jRatioQ (n : Nat) (u : Value) (p : Rat) (w : World) (hn : n ≤ 1000) (hu : JQ w u p n) (htab : Tab w.heap.size w) : Calls Tryz.prog 29 #[u] w fun e w' => e = .returned (.tuple #[ratOf (rtT p), .int .i64 (rtC p)]) ∧ Below w.heap.size w w' := by
  obtain ⟨b1, x1, y1, h1, e1, g1, k1, p1⟩ := hu
  have := jRatio_any u b1 x1 y1 n w h1 g1 k1 hn p1 htab
  rw [e1] at this
  exact this
/-- box B holds a fraction with the value p -/
def JVQ (w : World) (B : Nat) (p : Rat) (n : Nat) : Prop := ∃ b A1 c1 l1 A2 c2 l2, w.heap[B]? = some (.cells #[.bool b, .slice A1 (l1 : List Nat).length c1, .slice A2 (l2 : List Nat).length c2] 71 (0, 0)) ∧ JQ w (.agg #[.bool b, .slice A1 l1.length c1, .slice A2 l2.length c2]) p n
theorem JVQ.on {w w' : World} {B : Nat} {p : Rat} {n : Nat} (h : JVQ w B p n) (hb : Below w.heap.size w w') : JVQ w' B p n := by
  obtain ⟨b, A1, c1, l1, A2, c2, l2, e, h1⟩ := h
  exact ⟨b, A1, c1, l1, A2, c2, l2, (hb.block B (heap_lt e)).trans e, h1.on hb⟩
theorem JVQ.lt {w : World} {B : Nat} {p : Rat} {n : Nat} (h : JVQ w B p n) : B < w.heap.size := by
  obtain ⟨b, A1, c1, l1, A2, c2, l2, e, h1⟩ := h
  exact heap_lt e
/-- what lies in such a box, as a value -/
theorem JVQ.get {w : World} {B : Nat} {p : Rat} {n : Nat} (h : JVQ w B p n) : ∃ b A1 c1 l1 A2 c2 l2, (∀ W, Below w.heap.size w W → W.cell? ⟨B, 0, none⟩ = some (.bool b) ∧ W.cell? ⟨B, 1, none⟩ = some (.slice A1 (l1 : List Nat).length c1) ∧ W.cell? ⟨B, 2, none⟩ = some (.slice A2 (l2 : List Nat).length c2) ∧ W.frozen? ⟨B, 0, none⟩ = false ∧ W.frozen? ⟨B, 1, none⟩ = false ∧ W.frozen? ⟨B, 2, none⟩ = false ∧ B < W.heap.size) ∧ JQ w (.agg #[.bool b, .slice A1 l1.length c1, .slice A2 l2.length c2]) p n := by
  obtain ⟨b, A1, c1, l1, A2, c2, l2, e, h1⟩ := h
  refine ⟨b, A1, c1, l1, A2, c2, l2, fun W hW => ?_, h1⟩
  have e' := (hW.block B (heap_lt e)).trans e
  exact ⟨by rw [cellsAt e']; rfl, by rw [cellsAt e']; rfl, by rw [cellsAt e']; rfl, frozenAt e' 0, frozenAt e' 1, frozenAt e' 2, heap_lt e'⟩
/-- a value laid in a box of its own -/
theorem JVQ.laid {w : World} {b : Bool} {A1 A2 : Option Addr} {c1 c2 : Nat} {l1 l2 : List Nat} {p : Rat} {n : Nat} (h : JQ w (.agg #[.bool b, .slice A1 l1.length c1, .slice A2 l2.length c2]) p n) : JVQ (w.alloc (.cells #[.bool b, .slice A1 l1.length c1, .slice A2 l2.length c2] 71)) w.heap.size p n :=
  ⟨b, A1, c1, l1, A2, c2, l2, alloc_at _ _ _ rfl, h.on ((Below.refl _ w).alloc (Nat.le_refl _) _)⟩
/-- a value stored into a box -/
theorem JVQ.set {w : World} {B : Nat} {b b0 : Bool} {A1 A2 : Option Addr} {c1 c2 : Nat} {l1 l2 : List Nat} {B1 B2 : Option Addr} {d1 d2 e1 e2 : Nat} {p : Rat} {n : Nat} (hX : w.heap[B]? = some (.cells #[.bool b0, .slice B1 d1 e1, .slice B2 d2 e2] 71 (0, 0))) (h : JQ w (.agg #[.bool b, .slice A1 l1.length c1, .slice A2 l2.length c2]) p n) :
    JVQ (((w.setCell ⟨B, 0, none⟩ (.bool b)).setCell ⟨B, 1, none⟩ (.slice A1 l1.length c1)).setCell ⟨B, 2, none⟩ (.slice A2 l2.length c2)) B p n := by
  obtain ⟨s, x, y, ⟨A3, c3, l3, A4, c4, l4, e, h1, h2⟩, h3⟩ := h
  simp only [Value.agg.injEq, Array.mk.injEq, List.cons.injEq, Value.bool.injEq, Value.slice.injEq, and_true] at e
  obtain ⟨rfl, ⟨rfl, g1, rfl⟩, ⟨rfl, g2, rfl⟩⟩ := e
  rw [g1, g2]
  obtain ⟨A5, c5, l5, A6, c6, l6, e5, h5, h6⟩ := jvar_set (b := b) hX (fun z => ⟨by simp, by simp, by simp⟩) h1 h2
  exact ⟨b, A5, c5, l5, A6, c6, l6, e5, b, x, y, ⟨A5, c5, l5, A6, c6, l6, rfl, h5, h6⟩, h3⟩
end Go.Proofs.YtlkjgjojahjapaaGreatDoor

/- A trial's ratios in lowest terms: plain. -/
namespace Go.Proofs.YtlkjgjojahjapaaGreatDoor
open Go

/-- a quotient in lowest terms -/
def lwN (x y : Nat) : Nat := frN (mkRat (sg false x) y)
def lwD (x y : Nat) : Nat := (mkRat (sg false x) y).den
theorem lw_k (x : Nat) {y : Nat} (hy : 0 < y) : ∃ k, 0 < k ∧ x = lwN x y * k ∧ y = lwD x y * k ∧ frS (mkRat (sg false x) y) = false := by
  unfold lwN lwD
  cases hq : mkRat (sg false x) y with
  | mk' n' d' z' c =>
    obtain ⟨m, hm, h1, h2⟩ := Rat.mkRat_num_den (by omega) hq
    have h1 : (x : Int) = n' * (m : Int) := h1
    have hn : 0 ≤ n' := by
      rcases Int.lt_or_le n' 0 with h | h
      · have := Int.mul_neg_of_neg_of_pos h (show (0 : Int) < (m : Int) by omega)
        omega
      · exact h
    have hn2 : ((n'.natAbs : Nat) : Int) = n' := Int.natAbs_of_nonneg hn
    refine ⟨m, by omega, ?_, h2, ?_⟩
    · have : (x : Int) = ((n'.natAbs * m : Nat) : Int) := by rw [Int.natCast_mul, hn2]; exact h1
      exact Int.ofNat_inj.1 this
    · show decide (n' < 0) = false
      exact decide_eq_false (by omega)
def bdN (p q : Rat) : Nat := lwN (frN q * p.den) (q.den * frN p)
def bdD (p q : Rat) : Nat := lwD (frN q * p.den) (q.den * frN p)
def gdN (p q : Rat) : Nat := lwN ((q.den - frN q) * p.den) (q.den * (p.den - frN p))
def gdD (p q : Rat) : Nat := lwD ((q.den - frN q) * p.den) (q.den * (p.den - frN p))
theorem tr_low {p q : Rat} (h : TrG p q) (n f : Nat) : ∃ k, 0 < k ∧ trU p q n f = bdN p q ^ f * gdN p q ^ (n - f) * k ∧ trD p q n f = bdD p q ^ f * gdD p q ^ (n - f) * k := by
  obtain ⟨k1, a1, a2, a3, _⟩ := lw_k (frN q * p.den) (y := q.den * frN p) (by rw [Nat.mul_comm]; exact h.A.2.2.1)
  obtain ⟨k2, b1, b2, b3, _⟩ := lw_k ((q.den - frN q) * p.den) (y := q.den * (p.den - frN p)) (by rw [Nat.mul_comm]; exact h.A.2.2.2)
  have a2' : frN q * p.den = bdN p q * k1 := a2
  have a3' : frN p * q.den = bdD p q * k1 := by rw [Nat.mul_comm]; exact a3
  have b2' : (q.den - frN q) * p.den = gdN p q * k2 := b2
  have b3' : (p.den - frN p) * q.den = gdD p q * k2 := by rw [Nat.mul_comm]; exact b3
  refine ⟨k1 ^ f * k2 ^ (n - f), Nat.mul_pos (Nat.pow_pos a1) (Nat.pow_pos b1), ?_, ?_⟩
  · unfold trU; rw [a2', b2', Nat.mul_pow, Nat.mul_pow]; grind
  · unfold trD; rw [a3', b3', Nat.mul_pow, Nat.mul_pow]; grind
/-- the verdict by the ratios in lowest terms -/
theorem ver_low {p q : Rat} (r0 r1 : Rat) (h : TrG p q) (n f : Nat) : verT r0 r1 (bdN p q ^ f * gdN p q ^ (n - f)) (bdD p q ^ f * gdD p q ^ (n - f)) = verN p q r0 r1 n f := by
  obtain ⟨k, hk, e1, e2⟩ := tr_low h n f
  unfold verN
  rw [e1, e2, verT_mul r0 r1 _ _ k hk]
/-- sizes -/
structure TrS (p q : Rat) : Prop where
  p0 : p.den < 1000000
  q0 : q.den < 1000000
theorem lw_lt {x y : Nat} (hy : 0 < y) (hx : x < 18446744073709551616) (hy2 : y < 18446744073709551616) : lwN x y < 18446744073709551616 ∧ lwD x y < 18446744073709551616 := by
  obtain ⟨k, hk, e1, e2, _⟩ := lw_k x hy
  have h1 := Nat.le_mul_of_pos_right (lwN x y) hk
  have h2 := Nat.le_mul_of_pos_right (lwD x y) hk
  omega
theorem mul_m {a b : Nat} (ha : a < 1000000) (hb : b < 1000000) : a * b < 1000000000000 := by
  have := Nat.mul_lt_mul'' ha hb
  omega
theorem tr_lt {p q : Rat} (h : TrG p q) (hs : TrS p q) : bdN p q < 18446744073709551616 ∧ bdD p q < 18446744073709551616 ∧ gdN p q < 18446744073709551616 ∧ gdD p q < 18446744073709551616 := by
  have := h.p1; have := h.q1; have := hs.p0; have := hs.q0
  have hA := h.A
  have h1 := lw_lt (x := frN q * p.den) (y := q.den * frN p) (by rw [Nat.mul_comm]; exact hA.2.2.1) (by have := mul_m (a := frN q) (b := p.den) (by omega) (by omega); omega) (by have := mul_m (a := q.den) (b := frN p) (by omega) (by omega); omega)
  have h2 := lw_lt (x := (q.den - frN q) * p.den) (y := q.den * (p.den - frN p)) (by rw [Nat.mul_comm]; exact hA.2.2.2) (by have := mul_m (a := q.den - frN q) (b := p.den) (by omega) (by omega); omega) (by have := mul_m (a := q.den) (b := p.den - frN p) (by omega) (by omega); omega)
  exact ⟨h1.1, h1.2, h2.1, h2.2⟩
end Go.Proofs.YtlkjgjojahjapaaGreatDoor

/- One operation of a drawn region, where it comes up: what it does as a closed fact for the kernel. No program in sight. -/
namespace Go.Proofs.YtlkjgjojahjapaaGreatDoor
open Go Go.RowKit

section
variable {P : Program} {Q : Exit → Act → World → Prop}
end
end Go.Proofs.YtlkjgjojahjapaaGreatDoor

/- Package judge: a trial in memory; rest, power, verdict, after. Printed by gen_jtrl.py. -/
namespace Go.Proofs.YtlkjgjojahjapaaGreatDoor
open Go Go.RowKit Go.Proofs

theorem geT (x y : Nat) : decide (0 ≤ cmpN x y) = decide (y ≤ x) := by
  unfold cmpN
  rcases Nat.lt_trichotomy x y with h | h | h
  · rw [if_pos h, decide_eq_false (by omega), decide_eq_false (by omega)]
  · rw [if_neg (by omega), if_pos h, decide_eq_true (by omega), decide_eq_true (by omega)]
  · rw [if_neg (by omega), if_neg (by omega), decide_eq_true (by omega), decide_eq_true (by omega)]
theorem leT (x y : Nat) : decide (cmpN x y ≤ 0) = decide (x ≤ y) := by
  unfold cmpN
  rcases Nat.lt_trichotomy x y with h | h | h
  · rw [if_pos h, decide_eq_true (by omega), decide_eq_true (by omega)]
  · rw [if_neg (by omega), if_pos h, decide_eq_true (by omega), decide_eq_true (by omega)]
  · rw [if_neg (by omega), if_neg (by omega), decide_eq_false (by omega), decide_eq_false (by omega)]
/-- three cells of a trial: a fraction that is not negative -/
def JAt (w : World) (B o : Nat) (x y : Nat) : Prop := ∃ cs A1 c1 l1 A2 c2 l2, w.heap[B]? = some (.cells cs 74 (0, 0)) ∧ cs[o]? = some (.bool false) ∧ cs[o + 1]? = some (.slice A1 (l1 : List Nat).length c1) ∧ cs[o + 2]? = some (.slice A2 (l2 : List Nat).length c2) ∧ NatR w A1 c1 l1 x ∧ NatR w A2 c2 l2 y
theorem JAt.on {w w' : World} {B o x y : Nat} (h : JAt w B o x y) (hb : Below w.heap.size w w') : JAt w' B o x y := by
  obtain ⟨cs, A1, c1, l1, A2, c2, l2, h0, h1, h2, h3, h4, h5⟩ := h
  exact ⟨cs, A1, c1, l1, A2, c2, l2, (hb.block B (heap_lt h0)).trans h0, h1, h2, h3, h4.on hb, h5.on hb⟩
theorem JAt.get {w : World} {B o x y : Nat} (h : JAt w B o x y) : ∃ A1 c1 l1 A2 c2 l2, (∀ W, Below w.heap.size w W → W.cell? ⟨B, o, none⟩ = some (.bool false) ∧ W.cell? ⟨B, o + 1, none⟩ = some (.slice A1 (l1 : List Nat).length c1) ∧ W.cell? ⟨B, o + 2, none⟩ = some (.slice A2 (l2 : List Nat).length c2)) ∧ NatR w A1 c1 l1 x ∧ NatR w A2 c2 l2 y := by
  obtain ⟨cs, A1, c1, l1, A2, c2, l2, h0, h1, h2, h3, h4, h5⟩ := h
  refine ⟨A1, c1, l1, A2, c2, l2, fun W hb => ?_, h4, h5⟩
  have e := (hb.block B (heap_lt h0)).trans h0
  exact ⟨by rw [cellsAt e]; exact h1, by rw [cellsAt e]; exact h2, by rw [cellsAt e]; exact h3⟩
/-- a trial that is ready -/
structure TrR (w : World) (B : Nat) (p q r0 r1 : Rat) : Prop where
  p0 : JAt w B 0 (frN p) p.den
  p1 : JAt w B 3 (frN q) q.den
  k0 : JAt w B 6 (frN r0) r0.den
  k1 : JAt w B 9 (frN r1) r1.den
  bad : JAt w B 12 (bdN p q) (bdD p q)
  good : JAt w B 15 (gdN p q) (gdD p q)
theorem TrR.on {w w' : World} {B : Nat} {p q r0 r1 : Rat} (h : TrR w B p q r0 r1) (hb : Below w.heap.size w w') : TrR w' B p q r0 r1 := ⟨h.p0.on hb, h.p1.on hb, h.k0.on hb, h.k1.on hb, h.bad.on hb, h.good.on hb⟩
/-- what its numbers satisfy -/
structure TrOk (p q r0 r1 : Rat) : Prop where
  g : TrG p q
  s : TrS p q
  a0 : 0 < frN r0
  a1 : frN r0 < r0.den
  a2 : r0.den < 1000000
  b0 : 0 < frN r1
  b1 : frN r1 < r1.den
  b2 : r1.den < 1000000
set_option maxHeartbeats 8000000 in
set_option maxRecDepth 100000 in
theorem jRest_any (u : Value) (b : Bool) (x y n : Nat) (w : World) (h : JF w u b x y) (hxy : x ≤ y) (hy : y < W64 ^ n) (hn : n ≤ 900000) :
    Calls Tryz.prog 79 #[u] w (JFPost false (y - x) y w) := by
  obtain ⟨A1, c1, l1, A2, c2, l2, rfl, h1, h2⟩ := h
  have hl := h2.len hy
  obtain ⟨W0, hW0⟩ : ∃ W0, W0 = (w.alloc (.cells #[.bool b, .slice A1 l1.length c1, .slice A2 l2.length c2] 71)).alloc (.cells #[.bool false, .slice none 0 0, .slice none 0 0] 71) := ⟨_, rfl⟩
  have HST0 := Lib.hid (show St w W0 [(w.heap.size, .cells #[.bool b, .slice A1 l1.length c1, .slice A2 l2.length c2] 71 (0, 0)), (w.heap.size + 1, .cells #[.bool false, .slice none 0 0, .slice none 0 0] 71 (0, 0))] by rw [hW0]; exact ((St.start w).alloc _ _ rfl).alloc _ _ (by simp))
  have HX0 := Lib.hid (show JBox W0 (w.heap.size + 1) from HST0.out.at 1 rfl)
  have HA1 := Lib.hid (h1.on HST0.out.below)
  have HA2 := Lib.hid (h2.on HST0.out.below)
  have HKS := Lib.hid (show ∀ X, Below W0.heap.size W0 X → (fun X => Below W0.heap.size W0 X ∧ X.cell? ⟨w.heap.size, 0, none⟩ = some (.bool b) ∧ X.cell? ⟨w.heap.size, 1, none⟩ = some (.slice A1 l1.length c1) ∧ X.cell? ⟨w.heap.size, 2, none⟩ = some (.slice A2 l2.length c2)) X from fun X hX => ⟨hX, (HST0.out.call hX).cell 0 0 rfl rfl, (HST0.out.call hX).cell 0 1 rfl rfl, (HST0.out.call hX).cell 0 2 rfl rfl⟩)
  have HSB := Lib.hid (fun W (hb : Below W0.heap.size W0 W) => natSub_any A2 A1 c2 c1 l2 l1 _ _ W (HA2.out.on hb) (HA1.out.on hb) (by omega) hxy)
  clear h1 h2
  go_enter Tryz.func79, Tryz.ntmps79
  go_wp2_with fail
  rw [← hW0]
  clear hW0
  refine wp_region_last (init := #[_, _, _, _, _, _, _, _]) (last := _) rfl (by kernel_rfl) (by kernel_rfl) (by kernel_rfl) ?_
  show wpAny _ _ _ _ 8 (Array.replicate 8 false) _ _
  refine wpAny_of_held (S := (fun X => Below W0.heap.size W0 X ∧ X.cell? ⟨w.heap.size, 0, none⟩ = some (.bool b) ∧ X.cell? ⟨w.heap.size, 1, none⟩ = some (.slice A1 l1.length c1) ∧ X.cell? ⟨w.heap.size, 2, none⟩ = some (.slice A2 l2.length c2))) _ _ _ _ ?_
  have HS0 := HKS.out _ (Below.refl _ W0).drew
  refine wpAnyH_take (i := 0) (v := ?_) rfl (by kernel_rfl) (by kernel_rfl) (by kernel_rfl) (fun _ _ _ h => h) (Or.inl ⟨by rfl, ?_⟩) HS0 ?_
  rotate_left
  · intro W hW; (try dsimp only at hW); go_simp; try (with_reducible rfl)
  (try simp only [List.getElem_toArray, List.getElem_cons_succ, List.getElem_cons_zero, Act.put, List.setIfInBounds_toArray, List.set_cons_zero, List.set_cons_succ])
  refine wpAnyH_take (i := 1) (v := ?_) rfl (by kernel_rfl) (by kernel_rfl) (by kernel_rfl) (fun _ _ _ h => h) (Or.inl ⟨by rfl, ?_⟩) HS0 ?_
  rotate_left
  · intro W hW; (try dsimp only at hW); go_simp; try (with_reducible rfl)
  (try simp only [List.getElem_toArray, List.getElem_cons_succ, List.getElem_cons_zero, Act.put, List.setIfInBounds_toArray, List.set_cons_zero, List.set_cons_succ])
  refine wpAnyH_take (i := 2) (v := ?_) rfl (by kernel_rfl) (by kernel_rfl) (by kernel_rfl) (fun _ _ _ h => h) (Or.inl ⟨by rfl, ?_⟩) HS0 ?_
  rotate_left
  · intro W hW; (try dsimp only at hW); go_simp; try (with_reducible rfl)
  (try simp only [List.getElem_toArray, List.getElem_cons_succ, List.getElem_cons_zero, Act.put, List.setIfInBounds_toArray, List.set_cons_zero, List.set_cons_succ])
  refine wpAnyH_take (i := 3) (v := ?_) rfl (by kernel_rfl) (by kernel_rfl) (by kernel_rfl) (fun _ _ _ h => h) (Or.inl ⟨by rfl, ?_⟩) HS0 ?_
  rotate_left
  · intro W hW; (try dsimp only at hW); go_simp; try (with_reducible rfl)
  (try simp only [List.getElem_toArray, List.getElem_cons_succ, List.getElem_cons_zero, Act.put, List.setIfInBounds_toArray, List.set_cons_zero, List.set_cons_succ])
  refine wpAnyH_take (i := 5) (v := ?_) rfl (by kernel_rfl) (by kernel_rfl) (by kernel_rfl) (fun _ _ _ h => h) (Or.inl ⟨by rfl, ?_⟩) HS0 ?_
  rotate_left
  · intro W hW; (try dsimp only at hW); go_simp; try (with_reducible rfl)
  (try simp only [List.getElem_toArray, List.getElem_cons_succ, List.getElem_cons_zero, Act.put, List.setIfInBounds_toArray, List.set_cons_zero, List.set_cons_succ])
  refine wpAnyH_take (i := 6) (v := ?_) rfl (by kernel_rfl) (by kernel_rfl) (by kernel_rfl) (fun _ _ _ h => h) (Or.inl ⟨by rfl, ?_⟩) HS0 ?_
  rotate_left
  · intro W hW; (try dsimp only at hW); go_simp; try (with_reducible rfl)
  (try simp only [List.getElem_toArray, List.getElem_cons_succ, List.getElem_cons_zero, Act.put, List.setIfInBounds_toArray, List.set_cons_zero, List.set_cons_succ])
  refine run_one (i := 4) (by kernel_rfl) rfl rfl ?_
  intro K hK
  go_simp
  refine (HSB.out _ HS0.1).mono ?_
  rintro e w8 ⟨A7, c7, l7, rfl, hn7, hb7⟩
  refine hK.out _ _ (HKS.out _ (below_next HS0.1 hb7)) ?_
  clear hK K
  have HSP := HS0
  clear HS0
  intro HS0
  refine run_one (i := 7) (by kernel_rfl) rfl rfl ?_
  intro K hK
  go_simp
  refine (jOf_any _ _ _ _ _ _ _ _ w8 hn7 (HA2.out.on HS0.1)).mono ?_
  rintro e w9 ⟨v9, rfl, hv, hb9⟩
  refine hK.out _ _ (HKS.out _ (below_next HS0.1 hb9)) ?_
  clear hK K
  have HSP := HS0
  clear HS0
  intro HS0
  refine wpAnyH_done (by kernel_rfl) ?_ _
  simp only [LastQ]
  obtain ⟨A8, c8, l8, A9, c9, l9, rfl, hj1, hj2⟩ := hv
  have HF := Lib.hid (fun W (hf : Fr (fun i => i = w.heap.size + 1) w9 W) => jf_ret (HX0.out.on HS0.1) (jf_mk (b := false) hj1 hj2) (below_next HST0.out.below HS0.1) (by omega) hf)
  obtain ⟨k0, k1, k2, z0, z1, z2, hlt⟩ := (HX0.out.on HS0.1).facts
  clear HS0 HSP hj1 hj2
  go_simp
  go_wp2
  refine bodyPost_ret (v := .agg #[.bool false, .slice A8 l8.length c8, .slice A9 l9.length c9]) (by simp [results, Tryz.results79, go_sem, k0, k1, k2]) rfl ⟨_, rfl, HF.out _ (fr3 _ _ _)⟩
set_option maxHeartbeats 8000000 in
set_option maxRecDepth 100000 in
theorem jPower_any (u : Value) (b : Bool) (x y n : Nat) (w : World) (h : JF w u b x y) (hx : x < W64 ^ 1) (hy : y < W64 ^ 1) (hn : n ≤ 100000) :
    Calls Tryz.prog 120 #[u, .int .i64 (n : Nat)] w (JFPost false (x ^ n) (y ^ n) w) := by
  obtain ⟨A1, c1, l1, A2, c2, l2, rfl, h1, h2⟩ := h
  obtain ⟨W0, hW0⟩ : ∃ W0, W0 = (w.alloc (.cells #[.bool b, .slice A1 l1.length c1, .slice A2 l2.length c2] 71)).alloc (.cells #[.bool false, .slice none 0 0, .slice none 0 0] 71) := ⟨_, rfl⟩
  have HST0 := Lib.hid (show St w W0 [(w.heap.size, .cells #[.bool b, .slice A1 l1.length c1, .slice A2 l2.length c2] 71 (0, 0)), (w.heap.size + 1, .cells #[.bool false, .slice none 0 0, .slice none 0 0] 71 (0, 0))] by rw [hW0]; exact ((St.start w).alloc _ _ rfl).alloc _ _ (by simp))
  have HX0 := Lib.hid (show JBox W0 (w.heap.size + 1) from HST0.out.at 1 rfl)
  have HA1 := Lib.hid (h1.on HST0.out.below)
  have HA2 := Lib.hid (h2.on HST0.out.below)
  have HKS := Lib.hid (show ∀ X, Below W0.heap.size W0 X → (fun X => Below W0.heap.size W0 X ∧ X.cell? ⟨w.heap.size, 0, none⟩ = some (.bool b) ∧ X.cell? ⟨w.heap.size, 1, none⟩ = some (.slice A1 l1.length c1) ∧ X.cell? ⟨w.heap.size, 2, none⟩ = some (.slice A2 l2.length c2)) X from fun X hX => ⟨hX, (HST0.out.call hX).cell 0 0 rfl rfl, (HST0.out.call hX).cell 0 1 rfl rfl, (HST0.out.call hX).cell 0 2 rfl rfl⟩)
  have HP1 := Lib.hid (fun W (hb : Below W0.heap.size W0 W) => natPow_any A1 c1 l1 x n 1 W (HA1.out.on hb) hx (by omega) (by omega))
  have HP2 := Lib.hid (fun W (hb : Below W0.heap.size W0 W) => natPow_any A2 c2 l2 y n 1 W (HA2.out.on hb) hy (by omega) (by omega))
  obtain ⟨X, hX⟩ : ∃ X, X = x ^ n := ⟨_, rfl⟩
  obtain ⟨Y, hY⟩ : ∃ Y, Y = y ^ n := ⟨_, rfl⟩
  rw [← hX] at HP1 ⊢
  rw [← hY] at HP2 ⊢
  clear h1 h2 hX hY hx hy
  go_enter Tryz.func120, Tryz.ntmps120
  go_wp2_with fail
  rw [← hW0]
  clear hW0
  refine wp_region_last (init := #[_, _, _, _, _, _, _, _, _]) (last := _) rfl (by kernel_rfl) (by kernel_rfl) (by kernel_rfl) ?_
  show wpAny _ _ _ _ 9 (Array.replicate 9 false) _ _
  refine wpAny_of_held (S := (fun X => Below W0.heap.size W0 X ∧ X.cell? ⟨w.heap.size, 0, none⟩ = some (.bool b) ∧ X.cell? ⟨w.heap.size, 1, none⟩ = some (.slice A1 l1.length c1) ∧ X.cell? ⟨w.heap.size, 2, none⟩ = some (.slice A2 l2.length c2))) _ _ _ _ ?_
  have HS0 := HKS.out _ (Below.refl _ W0).drew
  refine wpAnyH_take (i := 0) (v := ?_) rfl (by kernel_rfl) (by kernel_rfl) (by kernel_rfl) (fun _ _ _ h => h) (Or.inl ⟨by rfl, ?_⟩) HS0 ?_
  rotate_left
  · intro W hW; (try dsimp only at hW); go_simp; try (with_reducible rfl)
  (try simp only [List.getElem_toArray, List.getElem_cons_succ, List.getElem_cons_zero, Act.put, List.setIfInBounds_toArray, List.set_cons_zero, List.set_cons_succ])
  refine wpAnyH_take (i := 1) (v := ?_) rfl (by kernel_rfl) (by kernel_rfl) (by kernel_rfl) (fun _ _ _ h => h) (Or.inl ⟨by rfl, ?_⟩) HS0 ?_
  rotate_left
  · intro W hW; (try dsimp only at hW); go_simp; try (with_reducible rfl)
  (try simp only [List.getElem_toArray, List.getElem_cons_succ, List.getElem_cons_zero, Act.put, List.setIfInBounds_toArray, List.set_cons_zero, List.set_cons_succ])
  refine wpAnyH_take (i := 2) (v := ?_) rfl (by kernel_rfl) (by kernel_rfl) (by kernel_rfl) (fun _ _ _ h => h) (Or.inl ⟨by rfl, ?_⟩) HS0 ?_
  rotate_left
  · intro W hW; (try dsimp only at hW); go_simp; try (with_reducible rfl)
  (try simp only [List.getElem_toArray, List.getElem_cons_succ, List.getElem_cons_zero, Act.put, List.setIfInBounds_toArray, List.set_cons_zero, List.set_cons_succ])
  refine wpAnyH_take (i := 4) (v := ?_) rfl (by kernel_rfl) (by kernel_rfl) (by kernel_rfl) (fun _ _ _ h => h) (Or.inl ⟨by rfl, ?_⟩) HS0 ?_
  rotate_left
  · intro W hW; (try dsimp only at hW); go_simp; try (with_reducible rfl)
  (try simp only [List.getElem_toArray, List.getElem_cons_succ, List.getElem_cons_zero, Act.put, List.setIfInBounds_toArray, List.set_cons_zero, List.set_cons_succ])
  refine wpAnyH_take (i := 5) (v := ?_) rfl (by kernel_rfl) (by kernel_rfl) (by kernel_rfl) (fun _ _ _ h => h) (Or.inl ⟨by rfl, ?_⟩) HS0 ?_
  rotate_left
  · intro W hW; (try dsimp only at hW); go_simp; try (with_reducible rfl)
  (try simp only [List.getElem_toArray, List.getElem_cons_succ, List.getElem_cons_zero, Act.put, List.setIfInBounds_toArray, List.set_cons_zero, List.set_cons_succ])
  refine wpAnyH_take (i := 6) (v := ?_) rfl (by kernel_rfl) (by kernel_rfl) (by kernel_rfl) (fun _ _ _ h => h) (Or.inl ⟨by rfl, ?_⟩) HS0 ?_
  rotate_left
  · intro W hW; (try dsimp only at hW); go_simp; try (with_reducible rfl)
  (try simp only [List.getElem_toArray, List.getElem_cons_succ, List.getElem_cons_zero, Act.put, List.setIfInBounds_toArray, List.set_cons_zero, List.set_cons_succ])
  refine run_one (i := 3) (by kernel_rfl) rfl rfl ?_
  intro K hK
  go_simp
  refine (HP1.out _ HS0.1).mono ?_
  rintro e w7 ⟨A6, c6, l6, rfl, hn6, hb6⟩
  refine hK.out _ _ (HKS.out _ (below_next HS0.1 hb6)) ?_
  clear hK K
  have HSP := HS0
  clear HS0
  intro HS0
  refine run_one (i := 7) (by kernel_rfl) rfl rfl ?_
  intro K hK
  go_simp
  refine (HP2.out _ HS0.1).mono ?_
  rintro e w8 ⟨A7, c7, l7, rfl, hn7, hb7⟩
  refine hK.out _ _ (HKS.out _ (below_next HS0.1 hb7)) ?_
  clear hK K
  have HSP := HS0
  clear HS0
  intro HS0
  refine run_one (i := 8) (by kernel_rfl) rfl rfl ?_
  intro K hK
  go_simp
  refine (jOf_any _ _ _ _ _ _ _ _ w8 (hn6.on hb7) hn7).mono ?_
  rintro e w9 ⟨v9, rfl, hv, hb9⟩
  refine hK.out _ _ (HKS.out _ (below_next HS0.1 hb9)) ?_
  clear hK K
  have HSP := HS0
  clear HS0
  intro HS0
  refine wpAnyH_done (by kernel_rfl) ?_ _
  simp only [LastQ]
  obtain ⟨A8, c8, l8, A9, c9, l9, rfl, hj1, hj2⟩ := hv
  have HF := Lib.hid (fun W (hf : Fr (fun i => i = w.heap.size + 1) w9 W) => jf_ret (HX0.out.on HS0.1) (jf_mk (b := false) hj1 hj2) (below_next HST0.out.below HS0.1) (by omega) hf)
  obtain ⟨k0, k1, k2, z0, z1, z2, hlt⟩ := (HX0.out.on HS0.1).facts
  clear HS0 HSP hj1 hj2
  go_simp
  go_wp2
  refine bodyPost_ret (v := .agg #[.bool false, .slice A8 l8.length c8, .slice A9 l9.length c9]) (by simp [results, Tryz.results120, go_sem, k0, k1, k2]) rfl ⟨_, rfl, HF.out _ (fr3 _ _ _)⟩
end Go.Proofs.YtlkjgjojahjapaaGreatDoor
