/- Sizes of sums, products, quotients of fractions. Plain. -/
import Derived.Test.YtpmnhdgajkickaaGreatDoorB16
import Derived.Test.YtpmnhdgajkickaaGreatDoorOvMath
import Derived.Test.YtpmnhdgajkickaaGreatDoorErlM2
namespace Go.Proofs.YtpmnhdgajkickaaGreatDoor
open Go Go.RowKit Go.Proofs

theorem sz_mk {b : Bool} {x y n : Nat} (hy : 0 < y) (hx : x < T4 ^ n) (hY : y < T4 ^ n) : Sz n (mkRat (sg b x) y) := mk_sz hy hx hY
theorem Sz.mono {n m : Nat} {q : Rat} (h : Sz n q) (hm : n ≤ m) : Sz m q := by
  have : T4 ^ n ≤ T4 ^ m := Nat.pow_le_pow_right (by unfold T4; omega) hm
  exact ⟨Nat.lt_of_lt_of_le h.1 this, Nat.lt_of_lt_of_le h.2 this⟩
theorem T4_mul {a b s t : Nat} (h1 : a < T4 ^ s) (h2 : b < T4 ^ t) : a * b < T4 ^ (s + t) := by rw [Nat.pow_add]; exact Nat.mul_lt_mul'' h1 h2
theorem sz_over {n m : Nat} {p q : Rat} (h1 : Sz n p) (h2 : Sz m q) (hq : q ≠ 0) : Sz (n + m) (p / q) := by
  rw [← over_eq hq]
  exact sz_mk (Nat.mul_pos p.den_pos (fr_ne hq)) (T4_mul h1.1 h2.2) (T4_mul h1.2 h2.1)
theorem sz_int2 {k : Int} {n : Nat} (h : k.natAbs < T4 ^ n) (hn : 1 ≤ n) : Sz n (k : Rat) := by
  have e : (k : Rat) = mkRat (sg (decide (k < 0)) k.natAbs) 1 := by rw [sg_self]; exact (Rat.mkRat_self (k : Rat)).symm
  rw [e]
  exact sz_mk (by omega) h (Nat.lt_of_lt_of_le (show 1 < T4 ^ 1 by unfold T4; omega) (Nat.pow_le_pow_right (by unfold T4; omega) hn))
theorem sz_part2 {k : Int} {d n : Nat} (h : k.natAbs < T4 ^ n) (hd : 0 < d) (h2 : d < T4 ^ n) : Sz n (mkRat k d) := by
  rw [show k = sg (decide (k < 0)) k.natAbs from (sg_self k).symm]
  exact sz_mk hd h h2
theorem T4_small {x n : Nat} (h : x < 100000000) (hn : 2 ≤ n) : x < T4 ^ n := Nat.lt_of_lt_of_le (show x < T4 ^ 2 by unfold T4; omega) (Nat.pow_le_pow_right (by unfold T4; omega) hn)
/-- Erlang's terms, sums and shares -/
theorem er_szR {a : Rat} (h0 : frS a = false) (h1 : 0 < frN a) (h2 : frN a ≤ 1000000) (h3 : a.den ≤ 1000000) {K : Nat} (hK : 101 ≤ K) (c : Nat) (hc : c ≤ 50) : Sz K (erT a c) ∧ Sz K (erS a c) ∧ Sz K (erB a c) := by
  obtain ⟨⟨a1, a2⟩, ⟨b1, b2⟩, c1, c2⟩ := er_parts h0 h1 h2 h3 c hc
  have h4 := m8_pow (B := T4) (by unfold T4; decide) (by unfold T4; omega) c
  have h5 : T4 ^ (2 * c) < T4 ^ K := Nat.pow_lt_pow_right (by unfold T4; omega) (by omega)
  exact ⟨⟨by omega, by omega⟩, ⟨by omega, by omega⟩, by omega, by omega⟩
end Go.Proofs.YtpmnhdgajkickaaGreatDoor
