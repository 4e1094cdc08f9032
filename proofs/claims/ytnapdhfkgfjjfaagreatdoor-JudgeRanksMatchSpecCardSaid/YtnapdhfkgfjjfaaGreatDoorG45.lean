import Derived.Test.YtnapdhfkgfjjfaaGreatDoorG0
import Derived.Test.YtnapdhfkgfjjfaaGreatDoorG43
import Derived.Test.YtnapdhfkgfjjfaaGreatDoorG20
import Derived.Test.YtnapdhfkgfjjfaaGreatDoorG44
import Derived.Test.YtnapdhfkgfjjfaaGreatDoorR10Rks
import Derived.Test.YtnapdhfkgfjjfaaGreatDoorG30
/- Erlang's formulas: plain. -/
namespace Go.Proofs.YtnapdhfkgfjjfaaGreatDoor
open Go

/-- terms and sums, as the reference has them -/
def erT (a : Rat) : Nat → Rat
  | 0 => 1
  | i + 1 => erT a i * (a * mkRat 1 (i + 1))
def erS (a : Rat) : Nat → Rat
  | 0 => 1
  | i + 1 => erS a i + erT a (i + 1)
def erB (a : Rat) (c : Nat) : Rat := erT a c / erS a c
theorem mk1 (i : Nat) : mkRat 1 (i + 1) = (((i + 1 : Nat) : Rat))⁻¹ := by
  rw [Rat.mkRat_eq_div, Rat.div_def]
  simp
theorem natR_pos (i : Nat) : (0 : Rat) < ((i + 1 : Nat) : Rat) := by
  have : (0 : Rat) < ((i + 1 : Nat) : Rat) ↔ 0 < i + 1 := by exact_mod_cast Iff.rfl
  exact this.2 (by omega)
theorem one_pos_q : (0 : Rat) < 1 := by decide
theorem erT_pos {a : Rat} (ha : 0 < a) : ∀ c, 0 < erT a c
  | 0 => one_pos_q
  | i + 1 => by
    unfold erT
    rw [mk1]
    exact Rat.mul_pos (erT_pos ha i) (Rat.mul_pos ha (Rat.inv_pos.2 (natR_pos i)))
theorem erS_pos {a : Rat} (ha : 0 < a) : ∀ c, 0 < erS a c
  | 0 => one_pos_q
  | i + 1 => by
    unfold erS
    have h1 := erS_pos ha i
    have h2 := erT_pos ha (i + 1)
    grind
theorem erB_pos {a : Rat} (ha : 0 < a) (c : Nat) : 0 < erB a c := by
  unfold erB
  rw [Rat.div_def]
  exact Rat.mul_pos (erT_pos ha c) (Rat.inv_pos.2 (erS_pos ha c))
theorem erB_zero (a : Rat) : erB a 0 = 1 := by
  show (1 : Rat) / 1 = 1
  rw [Rat.div_def, Rat.mul_inv_cancel _ (by decide)]
/-- one server more -/
theorem erB_succ {a : Rat} (ha : 0 < a) (c : Nat) : erB a (c + 1) = a * erB a c / (((c + 1 : Nat) : Rat) + a * erB a c) := by
  have h1 := erT_pos ha c
  have h2 := erS_pos ha c
  have h3 := natR_pos c
  have hx : 0 < a * erB a c := Rat.mul_pos ha (erB_pos ha c)
  have hs : 0 < erS a (c + 1) := erS_pos ha (c + 1)
  have e1 : erT a (c + 1) = erT a c * (a * (((c + 1 : Nat) : Rat))⁻¹) := by rw [← mk1]; rfl
  have e2 : erS a (c + 1) = erS a c + erT a (c + 1) := rfl
  have e3 : erB a c * erS a c = erT a c := by
    unfold erB
    rw [Rat.div_def, Rat.mul_assoc, Rat.inv_mul_cancel _ (by grind), Rat.mul_one]
  have e4 : erB a (c + 1) * erS a (c + 1) = erT a (c + 1) := by
    unfold erB
    rw [Rat.div_def, Rat.mul_assoc, Rat.inv_mul_cancel _ (by grind), Rat.mul_one]
  generalize erB a c = B at *
  generalize erB a (c + 1) = B' at *
  generalize erT a c = T at *
  generalize erS a c = S at *
  generalize erT a (c + 1) = T' at *
  generalize erS a (c + 1) = S' at *
  generalize ((c + 1 : Nat) : Rat) = n at *
  have hn : n * n⁻¹ = 1 := Rat.mul_inv_cancel _ (by grind)
  have key : B' * (n + a * B) = a * B := by
    have g1 : n * T' = T * a := by rw [e1]; grind
    have g2 : (B' * (n + a * B)) * S' = (a * B) * S' := by
      have : S' * B' = T' := by grind
      grind
    have g3 : ((B' * (n + a * B)) - (a * B)) * S' = 0 := by grind
    have hS' : S' ≠ 0 := by grind
    have : (B' * (n + a * B)) - (a * B) = 0 := by
      have := congrArg (fun z => z * S'⁻¹) g3
      simp only [Rat.mul_assoc, Rat.mul_inv_cancel _ hS', Rat.mul_one, Rat.zero_mul] at this
      exact this
    grind
  have hd : n + a * B ≠ 0 := by grind
  have : B' * (n + a * B) * (n + a * B)⁻¹ = a * B / (n + a * B) := by rw [key, Rat.div_def]
  rw [← this, Rat.mul_assoc, Rat.mul_inv_cancel _ hd, Rat.mul_one]
/-- as a fraction of whole numbers -/
def erU (N : Nat) (c : Nat) : Nat := N ^ c
def erV (N D : Nat) : Nat → Nat
  | 0 => 1
  | c + 1 => (c + 1) * D * erV N D c + N ^ (c + 1)
theorem erV_pos {N D : Nat} (hN : 0 < N) (hD : 0 < D) : ∀ c, 0 < erV N D c
  | 0 => Nat.one_pos
  | c + 1 => by
    have := Nat.pow_pos (n := c + 1) hN
    unfold erV; omega
theorem natR_ne {n : Nat} (h : 0 < n) : ((n : Nat) : Rat) ≠ 0 := by
  intro hc
  have : n = 0 := by exact_mod_cast hc
  omega
theorem divdiv {n d x y k : Rat} (hd : d ≠ 0) (hy : y ≠ 0) (hs : k * d * y + n * x ≠ 0) : (n / d * (x / y)) / (k + n / d * (x / y)) = (n * x) / (k * d * y + n * x) := by
  have hdd : d * d⁻¹ = 1 := Rat.mul_inv_cancel _ hd
  have hyy : y * y⁻¹ = 1 := Rat.mul_inv_cancel _ hy
  have e : k * d * y + n * x = (k + n / d * (x / y)) * (d * y) := by
    rw [Rat.div_def, Rat.div_def]; grind
  have e2 : n * x = (n / d * (x / y)) * (d * y) := by
    rw [Rat.div_def, Rat.div_def]; grind
  have h1 : k + n / d * (x / y) ≠ 0 := by
    intro hc
    rw [hc, Rat.zero_mul] at e
    exact hs e
  rw [e, e2]
  generalize k + n / d * (x / y) = P at *
  generalize n / d * (x / y) = Q at *
  have hP : P * P⁻¹ = 1 := Rat.mul_inv_cancel _ h1
  have hPD : (P * (d * y)) ≠ 0 := by rw [← e]; exact hs
  have hPDi : (P * (d * y)) * (P * (d * y))⁻¹ = 1 := Rat.mul_inv_cancel _ hPD
  rw [Rat.div_def, Rat.div_def]
  generalize (P * (d * y))⁻¹ = I at *
  have : I * (d * y) = P⁻¹ := by
    have : P * (I * (d * y)) = 1 := by rw [← hPDi]; grind
    grind
  grind
theorem erB_frac {N D : Nat} (hN : 0 < N) (hD : 0 < D) : ∀ c, erB (mkRat (N : Nat) D) c = mkRat (erU N c : Nat) (erV N D c)
  | 0 => by
    rw [erB_zero, Rat.mkRat_eq_div]
    show (1 : Rat) = ((1 : Nat) : Rat) / ((1 : Nat) : Rat)
    rw [Rat.div_def]
    exact (Rat.mul_inv_cancel _ (by decide)).symm
  | c + 1 => by
    have ha : (0 : Rat) < mkRat (N : Nat) D := by
      obtain ⟨m, rfl⟩ : ∃ m, N = m + 1 := ⟨N - 1, by omega⟩
      obtain ⟨k, rfl⟩ : ∃ k, D = k + 1 := ⟨D - 1, by omega⟩
      rw [Rat.mkRat_eq_div, Rat.div_def]
      exact Rat.mul_pos (natR_pos m) (Rat.inv_pos.2 (natR_pos k))
    have hV := erV_pos hN hD c
    have hV' := erV_pos hN hD (c + 1)
    rw [erB_succ ha, erB_frac hN hD c, Rat.mkRat_eq_div, Rat.mkRat_eq_div, Rat.mkRat_eq_div]
    have e : ((erV N D (c + 1) : Nat) : Rat) = (((c + 1 : Nat) : Rat)) * ((D : Nat) : Rat) * ((erV N D c : Nat) : Rat) + ((N : Nat) : Rat) * ((erU N c : Nat) : Rat) := by
      have : erV N D (c + 1) = (c + 1) * D * erV N D c + N * erU N c := by unfold erU; show (c + 1) * D * erV N D c + N ^ (c + 1) = _; rw [Nat.pow_succ, Nat.mul_comm N]
      rw [this]
      exact_mod_cast rfl
    have e2 : ((erU N (c + 1) : Nat) : Rat) = ((N : Nat) : Rat) * ((erU N c : Nat) : Rat) := by
      have : erU N (c + 1) = N * erU N c := by unfold erU; rw [Nat.pow_succ, Nat.mul_comm]
      rw [this]
      exact_mod_cast rfl
    have hs : ((erV N D (c + 1) : Nat) : Rat) ≠ 0 := natR_ne hV'
    show (((N : Nat) : Rat) / ((D : Nat) : Rat) * (((erU N c : Nat) : Rat) / ((erV N D c : Nat) : Rat))) / (((c + 1 : Nat) : Rat) + ((N : Nat) : Rat) / ((D : Nat) : Rat) * (((erU N c : Nat) : Rat) / ((erV N D c : Nat) : Rat))) = ((erU N (c + 1) : Nat) : Rat) / ((erV N D (c + 1) : Nat) : Rat)
    rw [e] at hs
    rw [e, e2]
    exact divdiv (natR_ne hD) (natR_ne hV) hs
def m8 : Nat → Nat
  | 0 => 1
  | c + 1 => 100000000 * m8 c
theorem er_small {N D : Nat} (hN : N ≤ 1000000) (hD : D ≤ 1000000) : ∀ c, c ≤ 50 → erU N c ≤ m8 c ∧ erV N D c ≤ m8 c
  | 0, _ => ⟨Nat.le_refl _, Nat.le_refl _⟩
  | c + 1, hc => by
    obtain ⟨h1, h2⟩ := er_small hN hD c (by omega)
    unfold erU at h1 ⊢
    have g1 : N ^ c * N ≤ m8 c * 1000000 := Nat.mul_le_mul h1 hN
    have g2 : (c + 1) * D ≤ 50 * 1000000 := Nat.mul_le_mul hc hD
    have g3 : (c + 1) * D * erV N D c ≤ 50 * 1000000 * m8 c := Nat.mul_le_mul g2 h2
    have e : erV N D (c + 1) = (c + 1) * D * erV N D c + N ^ (c + 1) := rfl
    have e2 : m8 (c + 1) = 100000000 * m8 c := rfl
    rw [e, e2, Nat.pow_succ]
    exact ⟨by omega, by omega⟩
/-- the second formula -/
def erW (a : Rat) (c : Nat) : Rat := ((c : Int) : Rat) * erB a c / (((c : Int) : Rat) - a * (1 - erB a c))
end Go.Proofs.YtnapdhfkgfjjfaaGreatDoor

/- Erlang's formulas: sizes, codes, values. Plain. -/
namespace Go.Proofs.YtnapdhfkgfjjfaaGreatDoor
open Go

/-- the common denominator -/
def erF (D : Nat) : Nat → Nat
  | 0 => 1
  | c + 1 => (c + 1) * D * erF D c
theorem erF_pos {D : Nat} (hD : 0 < D) : ∀ c, 0 < erF D c
  | 0 => Nat.one_pos
  | c + 1 => by
    have := erF_pos hD c
    exact Nat.mul_pos (Nat.mul_pos (Nat.succ_pos c) hD) this
theorem erT_frac {N D : Nat} (hD : 0 < D) : ∀ c, erT (mkRat (N : Nat) D) c = mkRat (erU N c : Nat) (erF D c)
  | 0 => by
    show (1 : Rat) = mkRat ((1 : Nat) : Int) 1
    decide
  | c + 1 => by
    have hF := erF_pos hD c
    unfold erT
    rw [erT_frac hD c, Rat.mkRat_mul_mkRat, Rat.mkRat_mul_mkRat]
    have e1 : ((erU N c : Nat) : Int) * (((N : Nat) : Int) * 1) = ((erU N (c + 1) : Nat) : Int) := by unfold erU; rw [Nat.pow_succ]; simp
    have e2 : erF D c * (D * (c + 1)) = erF D (c + 1) := by
      show _ = (c + 1) * D * erF D c
      rw [Nat.mul_comm D, Nat.mul_comm]
    rw [e1, e2]
theorem erS_frac {N D : Nat} (hD : 0 < D) : ∀ c, erS (mkRat (N : Nat) D) c = mkRat (erV N D c : Nat) (erF D c)
  | 0 => by
    show (1 : Rat) = mkRat ((1 : Nat) : Int) 1
    decide
  | c + 1 => by
    have hF := erF_pos hD c
    have hF2 := erF_pos hD (c + 1)
    unfold erS
    rw [erS_frac hD c, erT_frac hD (c + 1)]
    have hk : 0 < (c + 1) * D := Nat.mul_pos (Nat.succ_pos c) hD
    have e : mkRat (erV N D c : Nat) (erF D c) = mkRat (((c + 1) * D * erV N D c : Nat) : Int) (erF D (c + 1)) := by
      show _ = mkRat (((c + 1) * D * erV N D c : Nat) : Int) ((c + 1) * D * erF D c)
      rw [Rat.mkRat_eq_div, Rat.mkRat_eq_div]
      have h1 : ((((c + 1) * D * erV N D c : Nat) : Int) : Rat) = (((c + 1) * D : Nat) : Rat) * ((erV N D c : Nat) : Rat) := by exact_mod_cast rfl
      have h2 : (((c + 1) * D * erF D c : Nat) : Rat) = (((c + 1) * D : Nat) : Rat) * ((erF D c : Nat) : Rat) := by exact_mod_cast rfl
      have h3 : (((erV N D c : Nat) : Int) : Rat) = ((erV N D c : Nat) : Rat) := rfl
      rw [h1, h2, h3]
      have n1 := natR_ne hk
      have n2 := natR_ne hF
      generalize (((c + 1) * D : Nat) : Rat) = k at *
      generalize ((erF D c : Nat) : Rat) = f at *
      generalize ((erV N D c : Nat) : Rat) = v at *
      rw [Rat.div_def, Rat.div_def]
      have i1 : f * f⁻¹ = 1 := Rat.mul_inv_cancel _ n2
      have hkf : k * f ≠ 0 := by
        intro hc
        have : k * f * f⁻¹ = 0 := by rw [hc, Rat.zero_mul]
        rw [Rat.mul_assoc, i1, Rat.mul_one] at this
        exact n1 this
      have i2 : (k * f) * (k * f)⁻¹ = 1 := Rat.mul_inv_cancel _ hkf
      generalize (k * f)⁻¹ = I at *
      have : f⁻¹ = k * I := by grind
      rw [this]; grind
    rw [e]
    have h := Rat.mkRat_add_mkRat (((c + 1) * D * erV N D c : Nat) : Int) ((erU N (c + 1) : Nat) : Int) (d₁ := erF D (c + 1)) (d₂ := erF D (c + 1)) (by omega) (by omega)
    rw [h]
    have e3 : ((((c + 1) * D * erV N D c : Nat) : Int) * (erF D (c + 1) : Nat) + ((erU N (c + 1) : Nat) : Int) * (erF D (c + 1) : Nat)) = ((erV N D (c + 1) * erF D (c + 1) : Nat) : Int) := by
      have : erV N D (c + 1) = (c + 1) * D * erV N D c + erU N (c + 1) := rfl
      rw [this]
      generalize (c + 1) * D * erV N D c = P
      generalize erU N (c + 1) = U
      generalize erF D (c + 1) = F
      rw [Int.natCast_mul, Int.natCast_add, Int.add_mul]
    rw [e3, Int.natCast_mul, Rat.mkRat_mul_right (by omega)]
theorem erF_small {D : Nat} (hD : D ≤ 1000000) : ∀ c, c ≤ 50 → erF D c ≤ m8 c
  | 0, _ => Nat.le_refl _
  | c + 1, hc => by
    have h := erF_small hD c (by omega)
    have g2 : (c + 1) * D ≤ 50 * 1000000 := Nat.mul_le_mul hc hD
    have g3 : (c + 1) * D * erF D c ≤ 50 * 1000000 * m8 c := Nat.mul_le_mul g2 h
    show (c + 1) * D * erF D c ≤ 100000000 * m8 c
    omega
theorem m8_mono : ∀ {c d : Nat}, c ≤ d → m8 c ≤ m8 d := by
  intro c d h
  induction d with
  | zero => rw [show c = 0 by omega]; exact Nat.le_refl _
  | succ d ih =>
    rcases Nat.lt_or_ge d c with h1 | h1
    · rw [show c = d + 1 by omega]; exact Nat.le_refl _
    · have := ih h1
      show m8 c ≤ 100000000 * m8 d
      omega
theorem m8_pow {B : Nat} (h : 100000000 ≤ B ^ 2) (hB : 0 < B) : ∀ c, m8 c ≤ B ^ (2 * c)
  | 0 => by show 1 ≤ B ^ (2 * 0); exact Nat.pow_pos hB
  | c + 1 => by
    have := m8_pow h hB c
    show 100000000 * m8 c ≤ B ^ (2 * (c + 1))
    rw [Nat.mul_succ, Nat.pow_add, Nat.mul_comm]
    exact Nat.mul_le_mul this h
/-- all parts are small -/
theorem er_parts {a : Rat} (h0 : frS a = false) (h1 : 0 < frN a) (h2 : frN a ≤ 1000000) (h3 : a.den ≤ 1000000) (c : Nat) (hc : c ≤ 50) :
    (frN (erT a c) ≤ m8 c ∧ (erT a c).den ≤ m8 c) ∧ (frN (erS a c) ≤ m8 c ∧ (erS a c).den ≤ m8 c) ∧ (frN (erB a c) ≤ m8 c ∧ (erB a c).den ≤ m8 c) := by
  have e : a = mkRat ((frN a : Nat) : Int) a.den := by
    have := fr_eq a
    rw [h0] at this
    exact this.symm
  have hD : 0 < a.den := a.den_pos
  obtain ⟨u1, u2⟩ := er_small h2 h3 c hc
  have u3 := erF_small h3 c hc
  have key : ∀ x y : Nat, 0 < y → x ≤ m8 c → y ≤ m8 c → frN (mkRat ((x : Nat) : Int) y) ≤ m8 c ∧ (mkRat ((x : Nat) : Int) y).den ≤ m8 c := by
    intro x y hy hx hy2
    obtain ⟨_, k2, k3⟩ := low_parts false (x := x) hy
    have k2' : frN (mkRat ((x : Nat) : Int) y) = x / Nat.gcd y x := k2
    have k3' : (mkRat ((x : Nat) : Int) y).den = y / Nat.gcd y x := k3
    rw [k2', k3']
    exact ⟨Nat.le_trans (Nat.div_le_self _ _) hx, Nat.le_trans (Nat.div_le_self _ _) hy2⟩
  refine ⟨?_, ?_, ?_⟩
  · rw [e, erT_frac hD]; exact key _ _ (erF_pos hD c) u1 u3
  · rw [e, erS_frac hD]; exact key _ _ (erF_pos hD c) u2 u3
  · rw [e, erB_frac h1 hD]; exact key _ _ (erV_pos h1 hD c) u1 u2
theorem pos_of {a : Rat} (h0 : frS a = false) (h1 : 0 < frN a) : 0 < a := by
  have e : a = mkRat ((frN a : Nat) : Int) a.den := by
    have := fr_eq a
    rw [h0] at this
    exact this.symm
  have hD : 0 < a.den := a.den_pos
  obtain ⟨m, hm⟩ : ∃ m, frN a = m + 1 := ⟨frN a - 1, by omega⟩
  obtain ⟨k, hk⟩ : ∃ k, a.den = k + 1 := ⟨a.den - 1, by omega⟩
  rw [e, hm, hk, Rat.mkRat_eq_div, Rat.div_def]
  exact Rat.mul_pos (natR_pos m) (Rat.inv_pos.2 (natR_pos k))
/-- the share that waits has a denominator -/
theorem erW_den {a : Rat} (ha : 0 < a) {c : Nat} (h : a < ((c : Int) : Rat)) : ((c : Int) : Rat) - a * (1 - erB a c) ≠ 0 := by
  have hb := erB_pos ha c
  have hx : 0 < a * erB a c := Rat.mul_pos ha hb
  generalize erB a c = B at *
  generalize ((c : Int) : Rat) = k at *
  intro hc
  have : k - a + a * B = 0 := by rw [← hc]; grind
  grind
end Go.Proofs.YtnapdhfkgfjjfaaGreatDoor

/- Sizes of sums, products, quotients of fractions. Plain. -/
namespace Go.Proofs.YtnapdhfkgfjjfaaGreatDoor
open Go Go.RowKit Go.Proofs

theorem sz_mk {b : Bool} {x y n : Nat} (hy : 0 < y) (hx : x < T4 ^ n) (hY : y < T4 ^ n) : Sz n (mkRat (sg b x) y) := mk_sz hy hx hY
theorem Sz.mono {n m : Nat} {q : Rat} (h : Sz n q) (hm : n ≤ m) : Sz m q := by
  have : T4 ^ n ≤ T4 ^ m := Nat.pow_le_pow_right (by unfold T4; omega) hm
  exact ⟨Nat.lt_of_lt_of_le h.1 this, Nat.lt_of_lt_of_le h.2 this⟩
theorem T4_mul {a b s t : Nat} (h1 : a < T4 ^ s) (h2 : b < T4 ^ t) : a * b < T4 ^ (s + t) := by rw [Nat.pow_add]; exact Nat.mul_lt_mul'' h1 h2
theorem sz_over {n m : Nat} {p q : Rat} (h1 : Sz n p) (h2 : Sz m q) (hq : q ≠ 0) : Sz (n + m) (p / q) := by
  rw [← over_eq hq]
  exact sz_mk (Nat.mul_pos p.den_pos (fr_ne hq)) (T4_mul h1.1 h2.2) (T4_mul h1.2 h2.1)
theorem sz_int2 {k : Int} {n : Nat} (h : k.natAbs < T4 ^ n) (hn : 1 ≤ n) : Sz n (k : Rat) := by
  have e : (k : Rat) = mkRat (sg (decide (k < 0)) k.natAbs) 1 := by rw [sg_self]; exact (Rat.mkRat_self (k : Rat)).symm
  rw [e]
  exact sz_mk (by omega) h (Nat.lt_of_lt_of_le (show 1 < T4 ^ 1 by unfold T4; omega) (Nat.pow_le_pow_right (by unfold T4; omega) hn))
theorem sz_part2 {k : Int} {d n : Nat} (h : k.natAbs < T4 ^ n) (hd : 0 < d) (h2 : d < T4 ^ n) : Sz n (mkRat k d) := by
  rw [show k = sg (decide (k < 0)) k.natAbs from (sg_self k).symm]
  exact sz_mk hd h h2
theorem T4_small {x n : Nat} (h : x < 100000000) (hn : 2 ≤ n) : x < T4 ^ n := Nat.lt_of_lt_of_le (show x < T4 ^ 2 by unfold T4; omega) (Nat.pow_le_pow_right (by unfold T4; omega) hn)
/-- Erlang's terms, sums and shares -/
theorem er_szR {a : Rat} (h0 : frS a = false) (h1 : 0 < frN a) (h2 : frN a ≤ 1000000) (h3 : a.den ≤ 1000000) {K : Nat} (hK : 101 ≤ K) (c : Nat) (hc : c ≤ 50) : Sz K (erT a c) ∧ Sz K (erS a c) ∧ Sz K (erB a c) := by
  obtain ⟨⟨a1, a2⟩, ⟨b1, b2⟩, c1, c2⟩ := er_parts h0 h1 h2 h3 c hc
  have h4 := m8_pow (B := T4) (by unfold T4; decide) (by unfold T4; omega) c
  have h5 : T4 ^ (2 * c) < T4 ^ K := Nat.pow_lt_pow_right (by unfold T4; omega) (by omega)
  exact ⟨⟨by omega, by omega⟩, ⟨by omega, by omega⟩, by omega, by omega⟩
end Go.Proofs.YtnapdhfkgfjjfaaGreatDoor

/- Package dynamometerref10: Worse. Printed by gen_r10wor.py. -/
namespace Go.Proofs.YtnapdhfkgfjjfaaGreatDoor
open Go Go.RowKit Go.Proofs

set_option maxHeartbeats 8000000 in
set_option maxRecDepth 100000 in
theorem rWorse_any (A B : Option Addr) (ca cb : Nat) (Sc Sd : ByteArray) (a b : List Int) (c d : List UInt8) (w : World) (hr1 : Rd w 0 w.heap.size 1 A a.length (ints a)) (hr2 : Rd w 0 w.heap.size 1 B b.length (ints b)) (hm1 : a.length ≤ 4000000000000000000) (hm2 : b.length ≤ 4000000000000000000) (hSc : Sc.data.toList = c) (hSd : Sd.data.toList = d) (hc : Sc.size ≤ 9223372036854775800) (hd : Sd.size ≤ 9223372036854775800) :
    Calls Tryz.prog 17 #[.slice A a.length ca, .slice B b.length cb, .agg #[.string Sc, .string Sd]] w fun e w' => e = .returned (wrV b a c d) ∧ Below w.heap.size w w' := by
  obtain ⟨W0, hW0⟩ : ∃ W0, W0 = w.alloc (.cells #[.string Sc, .string Sd] 31) := ⟨_, rfl⟩
  have HST0 := Lib.hid (show St w W0 [(w.heap.size, .cells #[.string Sc, .string Sd] 31 (0, 0))] by rw [hW0]; exact (St.start w).alloc _ _ rfl)
  have HP := Lib.hid (show ∀ X, Below W0.heap.size W0 X → X.cell? ⟨w.heap.size, 0, none⟩ = some (.string Sc) ∧ X.cell? ⟨w.heap.size, 1, none⟩ = some (.string Sd) from fun X hX => ⟨(HST0.out.call hX).cell 0 0 rfl rfl, (HST0.out.call hX).cell 0 1 rfl rfl⟩)
  have HJ1 := Lib.hid (fun W (hW : Below w.heap.size w W) => rRanks_any B A cb ca b a W (hr2.old hW) (hr1.old hW) hm2 hm1)
  have HVB := Lib.hid (wrV_bad (a := b) (b := a) (c := c) (d := d))
  have HVB2 := Lib.hid (wrV_bad2 (a := b) (b := a) (c := c) (d := d))
  have HVO := Lib.hid (wrV_ok (a := b) (b := a) (c := c) (d := d))
  have hok := smC_ok (a := b) (b := a) (m := 40)
  have hbd := rk_bd b a
  have hps := rk_pos b a
  have HBE := Lib.hid (show wrB b a c d = decide (ordQ (mkRat (sg false (cntGe (rkS b a) (rkT b a))) (rkT b a).length) (ratX c d) ≤ 0) by rfl)
  unfold rkP rkR at HJ1
  obtain ⟨V, hV⟩ : ∃ V, V = wrV b a c d := ⟨_, rfl⟩
  rw [← hV] at HVB HVB2 HVO ⊢
  obtain ⟨C, hC⟩ : ∃ C, C = smC b a 40 := ⟨_, rfl⟩
  rw [← hC] at HJ1 HVB HVB2 HVO hok
  obtain ⟨Vl, hVl⟩ : ∃ V, V = rkS b a - (b.length : Int) * (b.length : Int) := ⟨_, rfl⟩
  obtain ⟨Lo, hLo⟩ : ∃ V, V = cntLe (rkS b a) (rkT b a) := ⟨_, rfl⟩
  obtain ⟨Hi, hHi⟩ : ∃ V, V = cntGe (rkS b a) (rkT b a) := ⟨_, rfl⟩
  obtain ⟨Al, hAl⟩ : ∃ V, V = (rkT b a).length := ⟨_, rfl⟩
  rw [← hVl, ← hLo, ← hHi, ← hAl] at HJ1
  rw [← hHi, ← hAl] at HBE
  rw [← hLo, ← hHi, ← hAl] at hbd
  rw [← hAl] at hps
  clear hr1 hr2 hC hV hVl hLo hHi hAl
  by_cases hz : C = 0
  · obtain ⟨hN0, hM0, hNM⟩ := hok hz
    obtain ⟨g1, g2, g3⟩ := hbd (by omega)
    by_cases h2 : shC .between c d = 0
    · have HSR := Lib.hid (fun W => rShortR_any Sc Sd c d 0 1 true W hSc hSd hc hd (by omega) (by omega) (by omega) (by omega))
      rw [show shR 0 1 true c d = shC .between c d from shR_eq .between c d, h2] at HSR
      have HFR := Lib.hid (fun W => rFrom_any Sc Sd c d W hSc hSd (shC_zero h2).1)
      obtain ⟨y1, y2, y3, y4⟩ := shC_small h2
      have hH : Hi < T4 ^ 4 := by unfold T4; omega
      have hA : Al < T4 ^ 4 := by unfold T4; omega
      have s1 : Sz 4 (mkRat (sg false Hi) Al) := sz_mk hps hH hA
      have s2 : Sz 4 (ratX c d) := ⟨by unfold T4; omega, by unfold T4; omega⟩
      obtain ⟨q, hq⟩ : ∃ q, q = ratX c d := ⟨_, rfl⟩
      rw [← hq] at HFR HBE s2
      obtain ⟨k, hk⟩ : ∃ k, k = ordQ (mkRat (sg false Hi) Al) q := ⟨_, rfl⟩
      rw [← hk] at HBE
      have HCM := Lib.hid (fun W u v (hu : FracR W u (mkRat (sg false Hi) Al)) (hv : FracR W v q) => rOrder_any 4 u v _ _ W (by omega) hu hv s1 s2)
      rw [← hk] at HCM
      have HV := Lib.hid (show V = .tuple #[.bool (decide (k ≤ 0)), .int .i64 0] by rw [HVO.out hz h2, HBE.out])
      have HOF1 := Lib.hid (fun W => (show Calls Tryz.prog 48 #[.int .i64 (Hi : Nat)] W (RNatPost Hi W) from by have := rnatOf_any (Hi : Int) W (by omega); rwa [Int.toNat_natCast] at this))
      have HOF2 := Lib.hid (fun W => (show Calls Tryz.prog 48 #[.int .i64 (Al : Nat)] W (RNatPost Al W) from by have := rnatOf_any (Al : Int) W (by omega); rwa [Int.toNat_natCast] at this))
      have tz : (C != 0) = false := by rw [hz]; rfl
      have HCZ := Lib.hid hz
      clear HVB HVB2 HVO HBE hk hq h2 hz hok hbd hN0 hM0 hNM y4 hSc hSd hc hd hm1 hm2 y1 y2 y3 g1 s1 s2
      go_enter Tryz.func17, Tryz.ntmps17
      go_wp2_with fail
      rw [← hW0]
      clear hW0
      (with_reducible refine (HJ1.out W0 HST0.out.below).mono ?_)
      rintro e w1 (⟨hne, _⟩ | ⟨hz, rfl, hb1⟩)
      · exact absurd HCZ.out hne
      obtain ⟨W2, hW2⟩ : ∃ W2, W2 = w1.alloc (.cells #[.int .i64 Vl, .int .i64 (Lo : Nat), .int .i64 (Hi : Nat), .int .i64 (Al : Nat)] 24) := ⟨_, rfl⟩
      obtain ⟨B1, hB1⟩ : ∃ B, B = w1.heap.size := ⟨_, rfl⟩
      have hb12 : Below w1.heap.size w1 W2 := by rw [hW2]; exact (Below.refl _ w1).alloc (Nat.le_refl _) _
      have HX1 := Lib.hid (show W2.heap[B1]? = some (.cells #[.int .i64 Vl, .int .i64 (Lo : Nat), .int .i64 (Hi : Nat), .int .i64 (Al : Nat)] 24 (0, 0)) by rw [hW2, hB1]; exact alloc_at _ _ _ rfl)
      have HB2 := Lib.hid (below_next hb1 hb12)
      obtain ⟨o0, o1⟩ := HP.out W2 HB2.out
      rw [hW2] at o0 o1
      clear hb1 hb12 hz
      go_wp2_with fail
      rw [← hW2, ← hB1]
      clear hW2 o0 o1 hB1
      (with_reducible refine (HSR.out _).mono ?_)
      rintro e W4 ⟨rfl, hb3⟩
      have HX14 := Lib.hid ((hb3.block _ (heap_lt HX1.out)).trans HX1.out)
      have HB4 := Lib.hid (below_next HST0.out.below (below_next HB2.out hb3))
      have HKS := Lib.hid (show ∀ X, Below W4.heap.size W4 X → (fun X => Below W4.heap.size W4 X ∧ X.cell? ⟨B1, 2, none⟩ = some (.int .i64 (Hi : Nat)) ∧ X.cell? ⟨B1, 3, none⟩ = some (.int .i64 (Al : Nat)) ∧ X.cell? ⟨w.heap.size, 0, none⟩ = some (.string Sc) ∧ X.cell? ⟨w.heap.size, 1, none⟩ = some (.string Sd)) X from fun X hX => ⟨hX, by rw [cellsAt ((hX.block _ (heap_lt HX14.out)).trans HX14.out)]; rfl, by rw [cellsAt ((hX.block _ (heap_lt HX14.out)).trans HX14.out)]; rfl, (HP.out X (below_next HB2.out (below_next hb3 hX))).1, (HP.out X (below_next HB2.out (below_next hb3 hX))).2⟩)
      clear hb3
      go_wp2_with fail
      refine wp_region_noPanic ?_
      refine wp_region_held_drew (S := (fun X => Below W4.heap.size W4 X ∧ X.cell? ⟨B1, 2, none⟩ = some (.int .i64 (Hi : Nat)) ∧ X.cell? ⟨B1, 3, none⟩ = some (.int .i64 (Al : Nat)) ∧ X.cell? ⟨w.heap.size, 0, none⟩ = some (.string Sc) ∧ X.cell? ⟨w.heap.size, 1, none⟩ = some (.string Sd))) (by kernel_rfl) (HKS.out _ (Below.refl _ W4).drew) (fun HS0 => ?_)
      have hbx0 : Below W4.heap.size W4 W4.drew := (Below.refl _ _).drew
      obtain ⟨Xx0, hXx0⟩ : ∃ X, X = W4.drew := ⟨_, rfl⟩
      rw [← hXx0] at hbx0 HS0 ⊢
      have HBx0 := Lib.hid hbx0
      clear hbx0 hXx0
      refine wpAnyH_take (i := 0) (v := ?_) rfl (by kernel_rfl) (by kernel_rfl) (by kernel_rfl) (fun _ _ _ h => h) (Or.inl ⟨by rfl, ?_⟩) HS0 ?_
      rotate_left
      · intro W hW; (try dsimp only at hW); go_simp; try (with_reducible rfl)

      refine wpAnyH_take (i := 1) (v := ?_) rfl (by kernel_rfl) (by kernel_rfl) (by kernel_rfl) (fun _ _ _ h => h) (Or.inl ⟨by rfl, ?_⟩) HS0 ?_
      rotate_left
      · intro W hW; (try dsimp only at hW); go_simp; try (with_reducible rfl)

      refine wpAnyH_take (i := 3) (v := ?_) rfl (by kernel_rfl) (by kernel_rfl) (by kernel_rfl) (fun _ _ _ h => h) (Or.inl ⟨by rfl, ?_⟩) HS0 ?_
      rotate_left
      · intro W hW; (try dsimp only at hW); go_simp; try (with_reducible rfl)

      refine wpAnyH_take (i := 4) (v := ?_) rfl (by kernel_rfl) (by kernel_rfl) (by kernel_rfl) (fun _ _ _ h => h) (Or.inl ⟨by rfl, ?_⟩) HS0 ?_
      rotate_left
      · intro W hW; (try dsimp only at hW); go_simp; try (with_reducible rfl)

      refine wpAnyH_take (i := 7) (v := ?_) rfl (by kernel_rfl) (by kernel_rfl) (by kernel_rfl) (fun _ _ _ h => h) (Or.inl ⟨by rfl, ?_⟩) HS0 ?_
      rotate_left
      · intro W hW; (try dsimp only at hW); go_simp; try (with_reducible rfl)

      clear HS0
      refine run_one (i := 2) (by kernel_rfl) rfl rfl ?_
      intro K hK
      go_simp
      (with_reducible refine (HOF1.out Xx0).mono ?_)
      rintro e Xx1 ⟨Ap, cp, lp, rfl, hnp, hbx1⟩
      have HBx1 := Lib.hid (below_next (HBx0.out) hbx1)
      refine hK.out _ _ (HKS.out _ HBx1.out) ?_
      clear hK K
      intro _

      refine run_one (i := 5) (by kernel_rfl) rfl rfl ?_
      intro K hK
      go_simp
      (with_reducible refine (HOF2.out Xx1).mono ?_)
      rintro e Xx2 ⟨Aq, cq, lq, rfl, hnq, hbx2⟩
      have HBx2 := Lib.hid (below_next (HBx1.out) hbx2)
      refine hK.out _ _ (HKS.out _ HBx2.out) ?_
      clear hK K
      intro _

      refine run_one (i := 6) (by kernel_rfl) rfl rfl ?_
      intro K hK
      go_simp
      (with_reducible refine (rLowest_any false _ _ _ _ _ _ _ _ Xx2 ((hnp).on hbx2) (hnq) (by have := (((hnp).on hbx2)).len hH; omega) (by have := ((hnq)).len hA; omega) hps).mono ?_)
      rintro e Xx3 ⟨v3, rfl, hvx3, hbx3⟩
      have HBx3 := Lib.hid (below_next (HBx2.out) hbx3)
      refine hK.out _ _ (HKS.out _ HBx3.out) ?_
      clear hK K
      intro _

      refine run_one (i := 8) (by kernel_rfl) rfl rfl ?_
      intro K hK
      go_simp
      (with_reducible refine (HFR.out Xx3).mono ?_)
      rintro e Xx4 ⟨v4, rfl, hvx4, hbx4⟩
      have HBx4 := Lib.hid (below_next (HBx3.out) hbx4)
      refine hK.out _ _ (HKS.out _ HBx4.out) ?_
      clear hK K
      intro _

      refine run_one (i := 9) (by kernel_rfl) rfl rfl ?_
      intro K hK
      go_simp
      (with_reducible refine (HCM.out Xx4 _ _ ((hvx3).on hbx4) (hvx4)).mono ?_)
      rintro e Xx5 ⟨rfl, hbx5⟩
      have HBx5 := Lib.hid (below_next (HBx4.out) hbx5)
      refine hK.out _ _ (HKS.out _ HBx5.out) ?_
      clear hK K
      intro _

      have HS0 := HKS.out _ (HBx5.out)
      refine wpAnyH_take (i := 10) (v := ?_) rfl (by kernel_rfl) (by kernel_rfl) (by kernel_rfl) (fun _ _ _ h => h) (Or.inl ⟨by rfl, ?_⟩) HS0 ?_
      rotate_left
      · intro W hW; (try dsimp only at hW); go_simp; try (with_reducible rfl)

      clear HS0
      have HS0 := HKS.out _ (HBx5.out)
      refine wpAnyH_take (i := 11) (v := ?_) rfl (by kernel_rfl) (by kernel_rfl) (by kernel_rfl) (fun _ _ _ h => h) (Or.inl ⟨by rfl, ?_⟩) HS0 ?_
      rotate_left
      · intro W hW; (try dsimp only at hW); go_simp; try (with_reducible rfl)

      clear HS0
      have HS0 := HKS.out _ (HBx5.out)
      refine wpAnyH_take (i := 12) (v := ?_) rfl (by kernel_rfl) (by kernel_rfl) (by kernel_rfl) (fun _ _ _ h => h) (Or.inl ⟨by rfl, ?_⟩) HS0 ?_
      rotate_left
      · intro W hW; (try dsimp only at hW); go_simp; try (with_reducible rfl)

      clear HS0
      refine wpAnyH_done (by kernel_rfl) ?_ _
      refine NoPanic.normal ?_
      go_wp2
      go_ret2
      exact ⟨by rw [HV.out]; rfl, below_next HB4.out (HBx5.out)⟩
    · have HSR := Lib.hid (fun W => rShortR_any Sc Sd c d 0 1 true W hSc hSd hc hd (by omega) (by omega) (by omega) (by omega))
      rw [show shR 0 1 true c d = shC .between c d from shR_eq .between c d] at HSR
      have HVE := Lib.hid (HVB2.out hz h2)
      obtain ⟨cc, hcc⟩ : ∃ z, z = shC .between c d := ⟨_, rfl⟩
      rw [← hcc] at HSR HVE h2
      have tz : (C != 0) = false := by rw [hz]; rfl
      have tc : (cc != 0) = true := by rw [bne_iff_ne]; exact h2
      have HCZ := Lib.hid hz
      clear HVB HVB2 HVO HBE hcc h2 hz hok hbd hN0 hM0 hNM hSc hSd hc hd hm1 hm2 g1 g2 g3 hps
      go_enter Tryz.func17, Tryz.ntmps17
      go_wp2_with fail
      rw [← hW0]
      clear hW0
      (with_reducible refine (HJ1.out W0 HST0.out.below).mono ?_)
      rintro e w1 (⟨hne, _⟩ | ⟨hz, rfl, hb1⟩)
      · exact absurd HCZ.out hne
      obtain ⟨W2, hW2⟩ : ∃ W2, W2 = w1.alloc (.cells #[.int .i64 Vl, .int .i64 (Lo : Nat), .int .i64 (Hi : Nat), .int .i64 (Al : Nat)] 24) := ⟨_, rfl⟩
      have hb12 : Below w1.heap.size w1 W2 := by rw [hW2]; exact (Below.refl _ w1).alloc (Nat.le_refl _) _
      have HB2 := Lib.hid (below_next hb1 hb12)
      obtain ⟨o0, o1⟩ := HP.out W2 HB2.out
      rw [hW2] at o0 o1
      clear hb1 hb12 hz
      go_wp2_with fail
      rw [← hW2]
      clear hW2 o0 o1
      (with_reducible refine (HSR.out _).mono ?_)
      rintro e w3 ⟨rfl, hb3⟩
      have HB3 := Lib.hid (below_next HST0.out.below (below_next HB2.out hb3))
      clear hb3
      go_wp2
      go_ret2
      exact ⟨by rw [HVE.out]; rfl, HB3.out⟩
  · have HVE := Lib.hid (HVB.out hz)
    have tz : (C != 0) = true := by rw [bne_iff_ne]; exact hz
    have HNE := Lib.hid hz
    clear HVB HVB2 HVO HBE hz hok hbd hSc hSd hc hd hm1 hm2 hps
    go_enter Tryz.func17, Tryz.ntmps17
    go_wp2_with fail
    rw [← hW0]
    clear hW0
    (with_reducible refine (HJ1.out W0 HST0.out.below).mono ?_)
    rintro e w1 (⟨_, rfl, hb1⟩ | ⟨hne, _⟩)
    · unfold rkZ
      have HB1 := Lib.hid (fun o => (show Below w.heap.size w (w1.alloc o) from (below_next HST0.out.below hb1).alloc (below_next HST0.out.below hb1).size o))
      clear hb1
      go_wp2
      go_ret2
      exact ⟨by rw [HVE.out]; rfl, HB1.out _⟩
    · exact absurd hne HNE.out
end Go.Proofs.YtnapdhfkgfjjfaaGreatDoor
