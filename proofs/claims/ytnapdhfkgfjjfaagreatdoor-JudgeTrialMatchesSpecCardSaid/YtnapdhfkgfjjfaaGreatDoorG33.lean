import Derived.Test.YtnapdhfkgfjjfaaGreatDoorG32
import Derived.Test.YtnapdhfkgfjjfaaGreatDoorG10
/- The errors of a trial: plain. -/
namespace Go.Proofs.YtnapdhfkgfjjfaaGreatDoor
open Go

section
variable (ver : Nat → Nat → Int)
end
/-- the verdicts of a trial -/
def verN (p q r0 r1 : Rat) (n f : Nat) : Int := verT r0 r1 (trU p q n f) (trD p q n f)
end Go.Proofs.YtnapdhfkgfjjfaaGreatDoor

/- A trial's ratios in lowest terms: plain. -/
namespace Go.Proofs.YtnapdhfkgfjjfaaGreatDoor
open Go

/-- a quotient in lowest terms -/
def lwN (x y : Nat) : Nat := frN (mkRat (sg false x) y)
def lwD (x y : Nat) : Nat := (mkRat (sg false x) y).den
theorem lw_k (x : Nat) {y : Nat} (hy : 0 < y) : ∃ k, 0 < k ∧ x = lwN x y * k ∧ y = lwD x y * k ∧ frS (mkRat (sg false x) y) = false := by
  unfold lwN lwD
  cases hq : mkRat (sg false x) y with
  | mk' n' d' z' c =>
    obtain ⟨m, hm, h1, h2⟩ := Rat.mkRat_num_den (by omega) hq
    have h1 : (x : Int) = n' * (m : Int) := h1
    have hn : 0 ≤ n' := by
      rcases Int.lt_or_le n' 0 with h | h
      · have := Int.mul_neg_of_neg_of_pos h (show (0 : Int) < (m : Int) by omega)
        omega
      · exact h
    have hn2 : ((n'.natAbs : Nat) : Int) = n' := Int.natAbs_of_nonneg hn
    refine ⟨m, by omega, ?_, h2, ?_⟩
    · have : (x : Int) = ((n'.natAbs * m : Nat) : Int) := by rw [Int.natCast_mul, hn2]; exact h1
      exact Int.ofNat_inj.1 this
    · show decide (n' < 0) = false
      exact decide_eq_false (by omega)
def bdN (p q : Rat) : Nat := lwN (frN q * p.den) (q.den * frN p)
def bdD (p q : Rat) : Nat := lwD (frN q * p.den) (q.den * frN p)
def gdN (p q : Rat) : Nat := lwN ((q.den - frN q) * p.den) (q.den * (p.den - frN p))
def gdD (p q : Rat) : Nat := lwD ((q.den - frN q) * p.den) (q.den * (p.den - frN p))
theorem tr_low {p q : Rat} (h : TrG p q) (n f : Nat) : ∃ k, 0 < k ∧ trU p q n f = bdN p q ^ f * gdN p q ^ (n - f) * k ∧ trD p q n f = bdD p q ^ f * gdD p q ^ (n - f) * k := by
  obtain ⟨k1, a1, a2, a3, _⟩ := lw_k (frN q * p.den) (y := q.den * frN p) (by rw [Nat.mul_comm]; exact h.A.2.2.1)
  obtain ⟨k2, b1, b2, b3, _⟩ := lw_k ((q.den - frN q) * p.den) (y := q.den * (p.den - frN p)) (by rw [Nat.mul_comm]; exact h.A.2.2.2)
  have a2' : frN q * p.den = bdN p q * k1 := a2
  have a3' : frN p * q.den = bdD p q * k1 := by rw [Nat.mul_comm]; exact a3
  have b2' : (q.den - frN q) * p.den = gdN p q * k2 := b2
  have b3' : (p.den - frN p) * q.den = gdD p q * k2 := by rw [Nat.mul_comm]; exact b3
  refine ⟨k1 ^ f * k2 ^ (n - f), Nat.mul_pos (Nat.pow_pos a1) (Nat.pow_pos b1), ?_, ?_⟩
  · unfold trU; rw [a2', b2', Nat.mul_pow, Nat.mul_pow]; grind
  · unfold trD; rw [a3', b3', Nat.mul_pow, Nat.mul_pow]; grind
/-- the verdict by the ratios in lowest terms -/
theorem ver_low {p q : Rat} (r0 r1 : Rat) (h : TrG p q) (n f : Nat) : verT r0 r1 (bdN p q ^ f * gdN p q ^ (n - f)) (bdD p q ^ f * gdD p q ^ (n - f)) = verN p q r0 r1 n f := by
  obtain ⟨k, hk, e1, e2⟩ := tr_low h n f
  unfold verN
  rw [e1, e2, verT_mul r0 r1 _ _ k hk]
/-- sizes -/
structure TrS (p q : Rat) : Prop where
  p0 : p.den < 1000000
  q0 : q.den < 1000000
theorem lw_lt {x y : Nat} (hy : 0 < y) (hx : x < 18446744073709551616) (hy2 : y < 18446744073709551616) : lwN x y < 18446744073709551616 ∧ lwD x y < 18446744073709551616 := by
  obtain ⟨k, hk, e1, e2, _⟩ := lw_k x hy
  have h1 := Nat.le_mul_of_pos_right (lwN x y) hk
  have h2 := Nat.le_mul_of_pos_right (lwD x y) hk
  omega
theorem mul_m {a b : Nat} (ha : a < 1000000) (hb : b < 1000000) : a * b < 1000000000000 := by
  have := Nat.mul_lt_mul'' ha hb
  omega
theorem tr_lt {p q : Rat} (h : TrG p q) (hs : TrS p q) : bdN p q < 18446744073709551616 ∧ bdD p q < 18446744073709551616 ∧ gdN p q < 18446744073709551616 ∧ gdD p q < 18446744073709551616 := by
  have := h.p1; have := h.q1; have := hs.p0; have := hs.q0
  have hA := h.A
  have h1 := lw_lt (x := frN q * p.den) (y := q.den * frN p) (by rw [Nat.mul_comm]; exact hA.2.2.1) (by have := mul_m (a := frN q) (b := p.den) (by omega) (by omega); omega) (by have := mul_m (a := q.den) (b := frN p) (by omega) (by omega); omega)
  have h2 := lw_lt (x := (q.den - frN q) * p.den) (y := q.den * (p.den - frN p)) (by rw [Nat.mul_comm]; exact hA.2.2.2) (by have := mul_m (a := q.den - frN q) (b := p.den) (by omega) (by omega); omega) (by have := mul_m (a := q.den) (b := p.den - frN p) (by omega) (by omega); omega)
  exact ⟨h1.1, h1.2, h2.1, h2.2⟩
/-- low and high do not meet -/
theorem hi_not_lo {r0 r1 : Rat} {u d : Nat} (hu : 0 < u) (hd : 0 < d) (h0 : 0 < frN r0) (h0' : frN r0 < r0.den) (h1 : 0 < frN r1) (h1' : frN r1 < r1.den) (h : hiT r0 u d = true) : loT r1 u d = false := by
  unfold hiT at h
  unfold loT
  rw [decide_eq_true_eq] at h
  rw [decide_eq_false_iff_not]
  intro h2
  have a1 : d * frN r0 < d * r0.den := Nat.mul_lt_mul_of_pos_left h0' hd
  have a2 : d < u := by
    refine Classical.byContradiction fun hc => ?_
    have := Nat.mul_le_mul_right (frN r0) (show u ≤ d by omega)
    omega
  have a3 : u * frN r1 < u * r1.den := Nat.mul_lt_mul_of_pos_left h1' hu
  have a4 := Nat.mul_lt_mul_of_pos_right a2 h1
  omega
theorem ver_one {p q r0 r1 : Rat} (h : TrG p q) (h0 : 0 < frN r0) (h0' : frN r0 < r0.den) (h1 : 0 < frN r1) (h1' : frN r1 < r1.den) (n f : Nat) : (verN p q r0 r1 n f = 2 ↔ hiT r0 (trU p q n f) (trD p q n f) = true) ∧ (verN p q r0 r1 n f = 1 ↔ loT r1 (trU p q n f) (trD p q n f) = true) := by
  have hx := hi_not_lo (trU_pos h n f) (trD_pos h n f) h0 h0' h1 h1'
  unfold verN verT
  cases hh : hiT r0 (trU p q n f) (trD p q n f) with
  | true => rw [hx hh]; simp
  | false =>
    cases hl : loT r1 (trU p q n f) (trD p q n f) with
    | true => simp
    | false => simp
/-- what the searches find -/
theorem bnd_hi {p q r0 r1 : Rat} (h : TrG p q) (h0 : 0 < frN r0) (h0' : frN r0 < r0.den) (h1 : 0 < frN r1) (h1' : frN r1 < r1.den) {n k : Nat} (hk : k ≤ n + 1) (hl : ∀ f, f < k → ∃ g, f ≤ g ∧ g < k ∧ verN p q r0 r1 n g ≠ 2) (hr : k ≤ n → ∃ g, g ≤ k ∧ verN p q r0 r1 n g = 2) : HiAt p q r0 n (k : Nat) := by
  have hv := fun f => (ver_one (r0 := r0) (r1 := r1) h h0 h0' h1 h1' n f).1
  refine ⟨by omega, by omega, fun f hf => ⟨fun hh => ?_, fun hh => ?_⟩⟩
  · obtain ⟨g, g1, g2⟩ := hr (by omega)
    exact hiT_mono h (f := g) (g := f) (by omega) hf ((hv g).1 g2)
  · refine Classical.byContradiction fun hc => ?_
    obtain ⟨g, g1, g2, g3⟩ := hl f (by omega)
    exact g3 ((hv g).2 (hiT_mono h (f := f) (g := g) g1 (by omega) hh))
theorem bnd_lo {p q r0 r1 : Rat} (h : TrG p q) (h0 : 0 < frN r0) (h0' : frN r0 < r0.den) (h1 : 0 < frN r1) (h1' : frN r1 < r1.den) {n k : Nat} (hk : k ≤ n + 1) (hl : ∀ f, f < k → ∃ g, f ≤ g ∧ g < k ∧ verN p q r0 r1 n g = 1) (hr : k ≤ n → ∃ g, g ≤ k ∧ verN p q r0 r1 n g ≠ 1) : LoAt p q r1 n ((k : Int) - 1) := by
  have hv := fun f => (ver_one (r0 := r0) (r1 := r1) h h0 h0' h1 h1' n f).2
  refine ⟨by omega, by omega, fun f hf => ⟨fun hh => ?_, fun hh => ?_⟩⟩
  · obtain ⟨g, g1, g2, g3⟩ := hl f (by omega)
    exact loT_mono h (f := f) (g := g) g1 (by omega) ((hv g).1 g3)
  · refine Classical.byContradiction fun hc => ?_
    obtain ⟨g, g1, g2⟩ := hr (by omega)
    exact g2 ((hv g).2 (loT_mono h (f := g) (g := f) (by omega) hf hh))
end Go.Proofs.YtnapdhfkgfjjfaaGreatDoor

/- One operation of a drawn region, where it comes up: what it does as a closed fact for the kernel. No program in sight. -/
namespace Go.Proofs.YtnapdhfkgfjjfaaGreatDoor
open Go Go.RowKit

section
variable {P : Program} {Q : Exit → Act → World → Prop}
end
end Go.Proofs.YtnapdhfkgfjjfaaGreatDoor
