import Derived.Lib.ItoaNum
/- Decimal digits read as a number: plain. -/
namespace Go.Proofs.YtnapdhfkgfjjfaaGreatDoor
open Go

/-- decimal digits read as a number -/
def dgV (l : List UInt8) : Nat := l.foldl (fun n c => 10 * n + (c.toNat - 48)) 0
theorem dgV_from (l : List UInt8) : ∀ n : Nat, l.foldl (fun n c => 10 * n + (c.toNat - 48)) n = n * 10 ^ l.length + dgV l := by
  induction l with
  | nil => intro n; simp [dgV]
  | cons c r ih =>
    intro n
    unfold dgV
    rw [List.foldl_cons, List.foldl_cons, ih, ih (10 * 0 + _), List.length_cons, Nat.pow_succ]
    have : (10 * n + (c.toNat - 48)) * 10 ^ r.length = n * (10 ^ r.length * 10) + (c.toNat - 48) * 10 ^ r.length := by
      rw [Nat.add_mul, Nat.mul_comm 10 n, Nat.mul_assoc, Nat.mul_comm 10]
    rw [this, Nat.mul_zero, Nat.zero_add]
    unfold dgV
    omega
theorem dgV_app (a b : List UInt8) : dgV (a ++ b) = dgV a * 10 ^ b.length + dgV b := by
  conv => lhs; unfold dgV
  rw [List.foldl_append, dgV_from]
  rfl
theorem dgV_lt {l : List UInt8} (h : ∀ c ∈ l, 48 ≤ c.toNat ∧ c.toNat ≤ 57) : dgV l < 10 ^ l.length := by
  induction l with
  | nil => simp [dgV]
  | cons c r ih =>
    have e := dgV_from r (10 * 0 + (c.toNat - 48))
    have h1 := h c (by simp)
    have h2 := ih (fun x hx => h x (by simp [hx]))
    unfold dgV
    rw [List.foldl_cons, e, List.length_cons, Nat.pow_succ]
    have : (10 * 0 + (c.toNat - 48)) * 10 ^ r.length ≤ 9 * 10 ^ r.length := Nat.mul_le_mul (by omega) (Nat.le_refl _)
    omega
end Go.Proofs.YtnapdhfkgfjjfaaGreatDoor

/- Fractions in lowest terms with a sign apart: what the reference's operations compute, over the core library's rational numbers. No program in sight. -/
namespace Go.Proofs.YtnapdhfkgfjjfaaGreatDoor

/-- a number with a sign apart -/
def sg (b : Bool) (n : Nat) : Int := if b then -(n : Int) else n
theorem sg_abs (b : Bool) (n : Nat) : (sg b n).natAbs = n := by cases b <;> simp [sg]
theorem sg_zero (b : Bool) : sg b 0 = 0 := by cases b <;> rfl
/-- the parts of a rational number as the reference has them -/
def frS (q : Rat) : Bool := decide (q.num < 0)
def frN (q : Rat) : Nat := q.num.natAbs
theorem fr_den (q : Rat) : 0 < q.den := q.den_pos
/-- Lowest -/
theorem low_zero (b : Bool) (d : Nat) : mkRat (sg b 0) d = 0 := by rw [sg_zero]; exact Rat.zero_mkRat d
theorem low_pos {b : Bool} {n d : Nat} (hn : 0 < n) (hd : 0 < d) : frS (mkRat (sg b n) d) = b ∧ frN (mkRat (sg b n) d) = n / Nat.gcd n d ∧ (mkRat (sg b n) d).den = d / Nat.gcd n d := by
  have hg : 0 < Nat.gcd n d := Nat.gcd_pos_of_pos_left d hn
  have h1 : (mkRat (sg b n) d).num = sg b n / (Nat.gcd n d : Int) := by
    rw [Rat.num_mkRat, if_neg (by omega), sg_abs, Nat.gcd_comm]
  have h2 : sg b n / (Nat.gcd n d : Int) = sg b (n / Nat.gcd n d) := by
    obtain ⟨k, hk⟩ := Nat.gcd_dvd_left n d
    have e : n / Nat.gcd n d = k := by
      conv => lhs; lhs; rw [hk]
      exact Nat.mul_div_cancel_left k hg
    cases b
    · show (n : Int) / (Nat.gcd n d : Int) = (n / Nat.gcd n d : Nat)
      rw [Int.natCast_ediv]
    · show -(n : Int) / (Nat.gcd n d : Int) = -((n / Nat.gcd n d : Nat) : Int)
      rw [Int.neg_ediv_of_dvd (Int.natCast_dvd_natCast.2 (Nat.gcd_dvd_left n d)), Int.natCast_ediv]
  have hq : 0 < n / Nat.gcd n d := Nat.div_pos (Nat.le_of_dvd hn (Nat.gcd_dvd_left n d)) hg
  refine ⟨?_, ?_, ?_⟩
  · unfold frS
    rw [h1, h2]
    cases b
    · show decide (((n / Nat.gcd n d : Nat) : Int) < 0) = false
      simp only [decide_eq_false_iff_not]; omega
    · show decide (-((n / Nat.gcd n d : Nat) : Int) < 0) = true
      simp only [decide_eq_true_iff]; omega
  · unfold frN
    rw [h1, h2, sg_abs]
  · rw [Rat.den_mkRat, if_neg (by omega), sg_abs, Nat.gcd_comm]
end Go.Proofs.YtnapdhfkgfjjfaaGreatDoor
