/- Erlang's formulas: sizes, codes, values. Plain. -/
import Derived.Test.YtpmnhdgajkickaaGreatDoorErlMath
import Derived.Test.YtpmnhdgajkickaaGreatDoorOvMath
namespace Go.Proofs.YtpmnhdgajkickaaGreatDoor
open Go

/-- the common denominator -/
def erF (D : Nat) : Nat → Nat
  | 0 => 1
  | c + 1 => (c + 1) * D * erF D c
theorem erF_pos {D : Nat} (hD : 0 < D) : ∀ c, 0 < erF D c
  | 0 => Nat.one_pos
  | c + 1 => by
    have := erF_pos hD c
    exact Nat.mul_pos (Nat.mul_pos (Nat.succ_pos c) hD) this
theorem erT_frac {N D : Nat} (hD : 0 < D) : ∀ c, erT (mkRat (N : Nat) D) c = mkRat (erU N c : Nat) (erF D c)
  | 0 => by
    show (1 : Rat) = mkRat ((1 : Nat) : Int) 1
    decide
  | c + 1 => by
    have hF := erF_pos hD c
    unfold erT
    rw [erT_frac hD c, Rat.mkRat_mul_mkRat, Rat.mkRat_mul_mkRat]
    have e1 : ((erU N c : Nat) : Int) * (((N : Nat) : Int) * 1) = ((erU N (c + 1) : Nat) : Int) := by unfold erU; rw [Nat.pow_succ]; simp
    have e2 : erF D c * (D * (c + 1)) = erF D (c + 1) := by
      show _ = (c + 1) * D * erF D c
      rw [Nat.mul_comm D, Nat.mul_comm]
    rw [e1, e2]
theorem erS_frac {N D : Nat} (hD : 0 < D) : ∀ c, erS (mkRat (N : Nat) D) c = mkRat (erV N D c : Nat) (erF D c)
  | 0 => by
    show (1 : Rat) = mkRat ((1 : Nat) : Int) 1
    decide
  | c + 1 => by
    have hF := erF_pos hD c
    have hF2 := erF_pos hD (c + 1)
    unfold erS
    rw [erS_frac hD c, erT_frac hD (c + 1)]
    have hk : 0 < (c + 1) * D := Nat.mul_pos (Nat.succ_pos c) hD
    have e : mkRat (erV N D c : Nat) (erF D c) = mkRat (((c + 1) * D * erV N D c : Nat) : Int) (erF D (c + 1)) := by
      show _ = mkRat (((c + 1) * D * erV N D c : Nat) : Int) ((c + 1) * D * erF D c)
      rw [Rat.mkRat_eq_div, Rat.mkRat_eq_div]
      have h1 : ((((c + 1) * D * erV N D c : Nat) : Int) : Rat) = (((c + 1) * D : Nat) : Rat) * ((erV N D c : Nat) : Rat) := by exact_mod_cast rfl
      have h2 : (((c + 1) * D * erF D c : Nat) : Rat) = (((c + 1) * D : Nat) : Rat) * ((erF D c : Nat) : Rat) := by exact_mod_cast rfl
      have h3 : (((erV N D c : Nat) : Int) : Rat) = ((erV N D c : Nat) : Rat) := rfl
      rw [h1, h2, h3]
      have n1 := natR_ne hk
      have n2 := natR_ne hF
      generalize (((c + 1) * D : Nat) : Rat) = k at *
      generalize ((erF D c : Nat) : Rat) = f at *
      generalize ((erV N D c : Nat) : Rat) = v at *
      rw [Rat.div_def, Rat.div_def]
      have i1 : f * f⁻¹ = 1 := Rat.mul_inv_cancel _ n2
      have hkf : k * f ≠ 0 := by
        intro hc
        have : k * f * f⁻¹ = 0 := by rw [hc, Rat.zero_mul]
        rw [Rat.mul_assoc, i1, Rat.mul_one] at this
        exact n1 this
      have i2 : (k * f) * (k * f)⁻¹ = 1 := Rat.mul_inv_cancel _ hkf
      generalize (k * f)⁻¹ = I at *
      have : f⁻¹ = k * I := by grind
      rw [this]; grind
    rw [e]
    have h := Rat.mkRat_add_mkRat (((c + 1) * D * erV N D c : Nat) : Int) ((erU N (c + 1) : Nat) : Int) (d₁ := erF D (c + 1)) (d₂ := erF D (c + 1)) (by omega) (by omega)
    rw [h]
    have e3 : ((((c + 1) * D * erV N D c : Nat) : Int) * (erF D (c + 1) : Nat) + ((erU N (c + 1) : Nat) : Int) * (erF D (c + 1) : Nat)) = ((erV N D (c + 1) * erF D (c + 1) : Nat) : Int) := by
      have : erV N D (c + 1) = (c + 1) * D * erV N D c + erU N (c + 1) := rfl
      rw [this]
      generalize (c + 1) * D * erV N D c = P
      generalize erU N (c + 1) = U
      generalize erF D (c + 1) = F
      rw [Int.natCast_mul, Int.natCast_add, Int.add_mul]
    rw [e3, Int.natCast_mul, Rat.mkRat_mul_right (by omega)]
theorem erF_small {D : Nat} (hD : D ≤ 1000000) : ∀ c, c ≤ 50 → erF D c ≤ m8 c
  | 0, _ => Nat.le_refl _
  | c + 1, hc => by
    have h := erF_small hD c (by omega)
    have g2 : (c + 1) * D ≤ 50 * 1000000 := Nat.mul_le_mul hc hD
    have g3 : (c + 1) * D * erF D c ≤ 50 * 1000000 * m8 c := Nat.mul_le_mul g2 h
    show (c + 1) * D * erF D c ≤ 100000000 * m8 c
    omega
theorem m8_mono : ∀ {c d : Nat}, c ≤ d → m8 c ≤ m8 d := by
  intro c d h
  induction d with
  | zero => rw [show c = 0 by omega]; exact Nat.le_refl _
  | succ d ih =>
    rcases Nat.lt_or_ge d c with h1 | h1
    · rw [show c = d + 1 by omega]; exact Nat.le_refl _
    · have := ih h1
      show m8 c ≤ 100000000 * m8 d
      omega
theorem m8_pow {B : Nat} (h : 100000000 ≤ B ^ 2) (hB : 0 < B) : ∀ c, m8 c ≤ B ^ (2 * c)
  | 0 => by show 1 ≤ B ^ (2 * 0); exact Nat.pow_pos hB
  | c + 1 => by
    have := m8_pow h hB c
    show 100000000 * m8 c ≤ B ^ (2 * (c + 1))
    rw [Nat.mul_succ, Nat.pow_add, Nat.mul_comm]
    exact Nat.mul_le_mul this h
/-- all parts are small -/
theorem er_parts {a : Rat} (h0 : frS a = false) (h1 : 0 < frN a) (h2 : frN a ≤ 1000000) (h3 : a.den ≤ 1000000) (c : Nat) (hc : c ≤ 50) :
    (frN (erT a c) ≤ m8 c ∧ (erT a c).den ≤ m8 c) ∧ (frN (erS a c) ≤ m8 c ∧ (erS a c).den ≤ m8 c) ∧ (frN (erB a c) ≤ m8 c ∧ (erB a c).den ≤ m8 c) := by
  have e : a = mkRat ((frN a : Nat) : Int) a.den := by
    have := fr_eq a
    rw [h0] at this
    exact this.symm
  have hD : 0 < a.den := a.den_pos
  obtain ⟨u1, u2⟩ := er_small h2 h3 c hc
  have u3 := erF_small h3 c hc
  have key : ∀ x y : Nat, 0 < y → x ≤ m8 c → y ≤ m8 c → frN (mkRat ((x : Nat) : Int) y) ≤ m8 c ∧ (mkRat ((x : Nat) : Int) y).den ≤ m8 c := by
    intro x y hy hx hy2
    obtain ⟨_, k2, k3⟩ := low_parts false (x := x) hy
    have k2' : frN (mkRat ((x : Nat) : Int) y) = x / Nat.gcd y x := k2
    have k3' : (mkRat ((x : Nat) : Int) y).den = y / Nat.gcd y x := k3
    rw [k2', k3']
    exact ⟨Nat.le_trans (Nat.div_le_self _ _) hx, Nat.le_trans (Nat.div_le_self _ _) hy2⟩
  refine ⟨?_, ?_, ?_⟩
  · rw [e, erT_frac hD]; exact key _ _ (erF_pos hD c) u1 u3
  · rw [e, erS_frac hD]; exact key _ _ (erF_pos hD c) u2 u3
  · rw [e, erB_frac h1 hD]; exact key _ _ (erV_pos h1 hD c) u1 u2
theorem pos_of {a : Rat} (h0 : frS a = false) (h1 : 0 < frN a) : 0 < a := by
  have e : a = mkRat ((frN a : Nat) : Int) a.den := by
    have := fr_eq a
    rw [h0] at this
    exact this.symm
  have hD : 0 < a.den := a.den_pos
  obtain ⟨m, hm⟩ : ∃ m, frN a = m + 1 := ⟨frN a - 1, by omega⟩
  obtain ⟨k, hk⟩ : ∃ k, a.den = k + 1 := ⟨a.den - 1, by omega⟩
  rw [e, hm, hk, Rat.mkRat_eq_div, Rat.div_def]
  exact Rat.mul_pos (natR_pos m) (Rat.inv_pos.2 (natR_pos k))
/-- the share that waits has a denominator -/
theorem erW_den {a : Rat} (ha : 0 < a) {c : Nat} (h : a < ((c : Int) : Rat)) : ((c : Int) : Rat) - a * (1 - erB a c) ≠ 0 := by
  have hb := erB_pos ha c
  have hx : 0 < a * erB a c := Rat.mul_pos ha hb
  generalize erB a c = B at *
  generalize ((c : Int) : Rat) = k at *
  intro hc
  have : k - a + a * B = 0 := by rw [← hc]; grind
  grind
end Go.Proofs.YtpmnhdgajkickaaGreatDoor
