/- Erlang's formulas: plain. -/
import Derived.Test.YtpmnhdgajkickaaGreatDoorB1
namespace Go.Proofs.YtpmnhdgajkickaaGreatDoor
open Go

/-- terms and sums, as the reference has them -/
def erT (a : Rat) : Nat → Rat
  | 0 => 1
  | i + 1 => erT a i * (a * mkRat 1 (i + 1))
def erS (a : Rat) : Nat → Rat
  | 0 => 1
  | i + 1 => erS a i + erT a (i + 1)
def erB (a : Rat) (c : Nat) : Rat := erT a c / erS a c
theorem mk1 (i : Nat) : mkRat 1 (i + 1) = (((i + 1 : Nat) : Rat))⁻¹ := by
  rw [Rat.mkRat_eq_div, Rat.div_def]
  simp
theorem natR_pos (i : Nat) : (0 : Rat) < ((i + 1 : Nat) : Rat) := by
  have : (0 : Rat) < ((i + 1 : Nat) : Rat) ↔ 0 < i + 1 := by exact_mod_cast Iff.rfl
  exact this.2 (by omega)
theorem one_pos_q : (0 : Rat) < 1 := by decide
theorem erT_pos {a : Rat} (ha : 0 < a) : ∀ c, 0 < erT a c
  | 0 => one_pos_q
  | i + 1 => by
    unfold erT
    rw [mk1]
    exact Rat.mul_pos (erT_pos ha i) (Rat.mul_pos ha (Rat.inv_pos.2 (natR_pos i)))
theorem erS_pos {a : Rat} (ha : 0 < a) : ∀ c, 0 < erS a c
  | 0 => one_pos_q
  | i + 1 => by
    unfold erS
    have h1 := erS_pos ha i
    have h2 := erT_pos ha (i + 1)
    grind
theorem erB_pos {a : Rat} (ha : 0 < a) (c : Nat) : 0 < erB a c := by
  unfold erB
  rw [Rat.div_def]
  exact Rat.mul_pos (erT_pos ha c) (Rat.inv_pos.2 (erS_pos ha c))
theorem erB_zero (a : Rat) : erB a 0 = 1 := by
  show (1 : Rat) / 1 = 1
  rw [Rat.div_def, Rat.mul_inv_cancel _ (by decide)]
/-- one server more -/
theorem erB_succ {a : Rat} (ha : 0 < a) (c : Nat) : erB a (c + 1) = a * erB a c / (((c + 1 : Nat) : Rat) + a * erB a c) := by
  have h1 := erT_pos ha c
  have h2 := erS_pos ha c
  have h3 := natR_pos c
  have hx : 0 < a * erB a c := Rat.mul_pos ha (erB_pos ha c)
  have hs : 0 < erS a (c + 1) := erS_pos ha (c + 1)
  have e1 : erT a (c + 1) = erT a c * (a * (((c + 1 : Nat) : Rat))⁻¹) := by rw [← mk1]; rfl
  have e2 : erS a (c + 1) = erS a c + erT a (c + 1) := rfl
  have e3 : erB a c * erS a c = erT a c := by
    unfold erB
    rw [Rat.div_def, Rat.mul_assoc, Rat.inv_mul_cancel _ (by grind), Rat.mul_one]
  have e4 : erB a (c + 1) * erS a (c + 1) = erT a (c + 1) := by
    unfold erB
    rw [Rat.div_def, Rat.mul_assoc, Rat.inv_mul_cancel _ (by grind), Rat.mul_one]
  generalize erB a c = B at *
  generalize erB a (c + 1) = B' at *
  generalize erT a c = T at *
  generalize erS a c = S at *
  generalize erT a (c + 1) = T' at *
  generalize erS a (c + 1) = S' at *
  generalize ((c + 1 : Nat) : Rat) = n at *
  have hn : n * n⁻¹ = 1 := Rat.mul_inv_cancel _ (by grind)
  have key : B' * (n + a * B) = a * B := by
    have g1 : n * T' = T * a := by rw [e1]; grind
    have g2 : (B' * (n + a * B)) * S' = (a * B) * S' := by
      have : S' * B' = T' := by grind
      grind
    have g3 : ((B' * (n + a * B)) - (a * B)) * S' = 0 := by grind
    have hS' : S' ≠ 0 := by grind
    have : (B' * (n + a * B)) - (a * B) = 0 := by
      have := congrArg (fun z => z * S'⁻¹) g3
      simp only [Rat.mul_assoc, Rat.mul_inv_cancel _ hS', Rat.mul_one, Rat.zero_mul] at this
      exact this
    grind
  have hd : n + a * B ≠ 0 := by grind
  have : B' * (n + a * B) * (n + a * B)⁻¹ = a * B / (n + a * B) := by rw [key, Rat.div_def]
  rw [← this, Rat.mul_assoc, Rat.mul_inv_cancel _ hd, Rat.mul_one]
/-- as a fraction of whole numbers -/
def erU (N : Nat) (c : Nat) : Nat := N ^ c
def erV (N D : Nat) : Nat → Nat
  | 0 => 1
  | c + 1 => (c + 1) * D * erV N D c + N ^ (c + 1)
theorem erV_pos {N D : Nat} (hN : 0 < N) (hD : 0 < D) : ∀ c, 0 < erV N D c
  | 0 => Nat.one_pos
  | c + 1 => by
    have := Nat.pow_pos (n := c + 1) hN
    unfold erV; omega
theorem natR_ne {n : Nat} (h : 0 < n) : ((n : Nat) : Rat) ≠ 0 := by
  intro hc
  have : n = 0 := by exact_mod_cast hc
  omega
theorem divdiv {n d x y k : Rat} (hd : d ≠ 0) (hy : y ≠ 0) (hs : k * d * y + n * x ≠ 0) : (n / d * (x / y)) / (k + n / d * (x / y)) = (n * x) / (k * d * y + n * x) := by
  have hdd : d * d⁻¹ = 1 := Rat.mul_inv_cancel _ hd
  have hyy : y * y⁻¹ = 1 := Rat.mul_inv_cancel _ hy
  have e : k * d * y + n * x = (k + n / d * (x / y)) * (d * y) := by
    rw [Rat.div_def, Rat.div_def]; grind
  have e2 : n * x = (n / d * (x / y)) * (d * y) := by
    rw [Rat.div_def, Rat.div_def]; grind
  have h1 : k + n / d * (x / y) ≠ 0 := by
    intro hc
    rw [hc, Rat.zero_mul] at e
    exact hs e
  rw [e, e2]
  generalize k + n / d * (x / y) = P at *
  generalize n / d * (x / y) = Q at *
  have hP : P * P⁻¹ = 1 := Rat.mul_inv_cancel _ h1
  have hPD : (P * (d * y)) ≠ 0 := by rw [← e]; exact hs
  have hPDi : (P * (d * y)) * (P * (d * y))⁻¹ = 1 := Rat.mul_inv_cancel _ hPD
  rw [Rat.div_def, Rat.div_def]
  generalize (P * (d * y))⁻¹ = I at *
  have : I * (d * y) = P⁻¹ := by
    have : P * (I * (d * y)) = 1 := by rw [← hPDi]; grind
    grind
  grind
theorem erB_frac {N D : Nat} (hN : 0 < N) (hD : 0 < D) : ∀ c, erB (mkRat (N : Nat) D) c = mkRat (erU N c : Nat) (erV N D c)
  | 0 => by
    rw [erB_zero, Rat.mkRat_eq_div]
    show (1 : Rat) = ((1 : Nat) : Rat) / ((1 : Nat) : Rat)
    rw [Rat.div_def]
    exact (Rat.mul_inv_cancel _ (by decide)).symm
  | c + 1 => by
    have ha : (0 : Rat) < mkRat (N : Nat) D := by
      obtain ⟨m, rfl⟩ : ∃ m, N = m + 1 := ⟨N - 1, by omega⟩
      obtain ⟨k, rfl⟩ : ∃ k, D = k + 1 := ⟨D - 1, by omega⟩
      rw [Rat.mkRat_eq_div, Rat.div_def]
      exact Rat.mul_pos (natR_pos m) (Rat.inv_pos.2 (natR_pos k))
    have hV := erV_pos hN hD c
    have hV' := erV_pos hN hD (c + 1)
    rw [erB_succ ha, erB_frac hN hD c, Rat.mkRat_eq_div, Rat.mkRat_eq_div, Rat.mkRat_eq_div]
    have e : ((erV N D (c + 1) : Nat) : Rat) = (((c + 1 : Nat) : Rat)) * ((D : Nat) : Rat) * ((erV N D c : Nat) : Rat) + ((N : Nat) : Rat) * ((erU N c : Nat) : Rat) := by
      have : erV N D (c + 1) = (c + 1) * D * erV N D c + N * erU N c := by unfold erU; show (c + 1) * D * erV N D c + N ^ (c + 1) = _; rw [Nat.pow_succ, Nat.mul_comm N]
      rw [this]
      exact_mod_cast rfl
    have e2 : ((erU N (c + 1) : Nat) : Rat) = ((N : Nat) : Rat) * ((erU N c : Nat) : Rat) := by
      have : erU N (c + 1) = N * erU N c := by unfold erU; rw [Nat.pow_succ, Nat.mul_comm]
      rw [this]
      exact_mod_cast rfl
    have hs : ((erV N D (c + 1) : Nat) : Rat) ≠ 0 := natR_ne hV'
    show (((N : Nat) : Rat) / ((D : Nat) : Rat) * (((erU N c : Nat) : Rat) / ((erV N D c : Nat) : Rat))) / (((c + 1 : Nat) : Rat) + ((N : Nat) : Rat) / ((D : Nat) : Rat) * (((erU N c : Nat) : Rat) / ((erV N D c : Nat) : Rat))) = ((erU N (c + 1) : Nat) : Rat) / ((erV N D (c + 1) : Nat) : Rat)
    rw [e] at hs
    rw [e, e2]
    exact divdiv (natR_ne hD) (natR_ne hV) hs
def m8 : Nat → Nat
  | 0 => 1
  | c + 1 => 100000000 * m8 c
theorem er_small {N D : Nat} (hN : N ≤ 1000000) (hD : D ≤ 1000000) : ∀ c, c ≤ 50 → erU N c ≤ m8 c ∧ erV N D c ≤ m8 c
  | 0, _ => ⟨Nat.le_refl _, Nat.le_refl _⟩
  | c + 1, hc => by
    obtain ⟨h1, h2⟩ := er_small hN hD c (by omega)
    unfold erU at h1 ⊢
    have g1 : N ^ c * N ≤ m8 c * 1000000 := Nat.mul_le_mul h1 hN
    have g2 : (c + 1) * D ≤ 50 * 1000000 := Nat.mul_le_mul hc hD
    have g3 : (c + 1) * D * erV N D c ≤ 50 * 1000000 * m8 c := Nat.mul_le_mul g2 h2
    have e : erV N D (c + 1) = (c + 1) * D * erV N D c + N ^ (c + 1) := rfl
    have e2 : m8 (c + 1) = 100000000 * m8 c := rfl
    rw [e, e2, Nat.pow_succ]
    exact ⟨by omega, by omega⟩
/-- the second formula -/
def erW (a : Rat) (c : Nat) : Rat := ((c : Int) : Rat) * erB a c / (((c : Int) : Rat) - a * (1 - erB a c))
end Go.Proofs.YtpmnhdgajkickaaGreatDoor
