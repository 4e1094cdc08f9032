/- Ratios of package judge: codes, ranges, texts. Plain. -/
import Derived.Test.YtfeicfohahfhiaaGreatDoorG1
namespace Go.Proofs.YtfeicfohahfhiaaGreatDoor
open Go

/-- a fraction's texts, and whether they fit -/
def txtQ (q : Rat) : List UInt8 × List UInt8 := if frS q = true then (45 :: (ratQ q).1, (ratQ q).2) else ratQ q
def fitQ (q : Rat) : Bool := decide ((ratQ q).1.length ≤ 2000) && decide ((ratQ q).2.length ≤ 2000)
/-- what is told of a fraction, and its code -/
def rtT (q : Rat) : List UInt8 × List UInt8 := if fitQ q = true then txtQ q else ([], [])
def rtC (q : Rat) : Int := if fitQ q = true then 0 else 3
/-- the code of a ratio -/
def cRt (a b : List UInt8) : Int := codeRt 2 3 a b
/-- what is known of a ratio that is one -/
theorem cRt_zero {a b : List UInt8} (h : cRt a b = 0) : dgB (unsg a) = true ∧ dgB b = true ∧ b ≠ [48] ∧ a ≠ [45, 48] ∧ (unsg a).length ≤ 2000 ∧ b.length ≤ 2000 ∧ Nat.gcd (dgV (unsg a)) (dgV b) = 1 :=
  codeRt_zero (by decide) (by decide) h
theorem dgV_zero {l : List UInt8} (h : dgB l = true) (h0 : dgV l = 0) : l = [48] := by
  refine Classical.byContradiction fun hc => ?_
  have := dgV_pos h hc
  omega
theorem unsg_neg {a : List UInt8} (h : sgB a = true) : a = 45 :: unsg a := by
  cases a with
  | nil => simp [sgB] at h
  | cons c r =>
    have hc : c = 45 := by simpa [sgB] using h
    subst hc
    simp [unsg, sgB]
theorem unsg_pos {a : List UInt8} (h : sgB a = false) : unsg a = a := by simp [unsg, h]
/-- sign, numerator and denominator of the value of a ratio -/
theorem ratX_good {a b : List UInt8} (h : cRt a b = 0) : frS (ratX a b) = sgB a ∧ frN (ratX a b) = dgV (unsg a) ∧ (ratX a b).den = dgV b ∧ 0 < dgV b := by
  obtain ⟨h1, h2, h3, h4, _, _, h7⟩ := cRt_zero h
  have hp := dgV_pos h2 h3
  obtain ⟨p1, p2, p3, p4⟩ := ratX_parts (a := a) hp h7
  refine ⟨?_, p1, p2, hp⟩
  rcases Nat.eq_zero_or_pos (dgV (unsg a)) with h0 | h0
  · rw [p4 h0]
    cases hs : sgB a with
    | false => rfl
    | true =>
      have e := unsg_neg hs
      rw [dgV_zero h1 h0] at e
      exact absurd e h4
  · exact p3 h0
/-- kinds of ranges -/
inductive Rg
  | share
  | between
  | positive
def inQ : Rg → Rat → Bool
  | .share, q => !frS q && decide (frN q ≤ q.den)
  | .between, q => !frS q && decide (0 < frN q) && decide (frN q < q.den)
  | .positive, q => !frS q && decide (0 < frN q)
/-- the code of a short ratio -/
def shC (k : Rg) (a b : List UInt8) : Int := if cRt a b ≠ 0 then cRt a b else if 6 < (unsg a).length ∨ 6 < b.length then 3 else if inQ k (ratX a b) = true then 0 else 9
theorem shC_zero {k : Rg} {a b : List UInt8} (h : shC k a b = 0) : cRt a b = 0 ∧ (unsg a).length ≤ 6 ∧ b.length ≤ 6 ∧ inQ k (ratX a b) = true := by
  unfold shC at h
  by_cases h1 : cRt a b = 0
  · rw [if_neg (by simpa using h1)] at h
    by_cases h2 : 6 < (unsg a).length ∨ 6 < b.length
    · rw [if_pos h2] at h; exact absurd h (by decide)
    · rw [if_neg h2] at h
      by_cases h3 : inQ k (ratX a b) = true
      · exact ⟨h1, by omega, by omega, h3⟩
      · rw [if_neg h3] at h; exact absurd h (by decide)
  · rw [if_pos h1] at h; exact absurd h h1
theorem dgV_small {l : List UInt8} {n : Nat} (h : dgB l = true) (hl : l.length ≤ n) : dgV l < 10 ^ n :=
  Nat.lt_of_lt_of_le (dgV_lt (dgB_digits h).2.1) (Nat.pow_le_pow_right (by omega) hl)
/-- short ratios are small -/
theorem shC_small {k : Rg} {a b : List UInt8} (h : shC k a b = 0) : frN (ratX a b) < 1000000 ∧ (ratX a b).den < 1000000 ∧ 0 < (ratX a b).den ∧ frS (ratX a b) = false := by
  obtain ⟨h1, h2, h3, h4⟩ := shC_zero h
  obtain ⟨g1, g2, _⟩ := cRt_zero h1
  obtain ⟨p1, p2, p3, p4⟩ := ratX_good h1
  rw [p2, p3]
  refine ⟨dgV_small g1 h2, dgV_small g2 h3, p4, ?_⟩
  cases k <;> simp only [inQ, Bool.and_eq_true, Bool.not_eq_true'] at h4
  · exact h4.1
  · exact h4.1.1
  · exact h4.1
/-- the ends of a range, in the reference's words -/
theorem ordQ_neg {q : Rat} : (ordQ q 0 < 0 ↔ frS q = true) ∧ (ordQ q 0 = 0 ↔ frN q = 0) := by
  have e : frS q = true ↔ q < 0 := by
    unfold frS
    rw [decide_eq_true_eq]
    constructor
    · intro h
      exact Rat.not_le.1 (fun hc => by have := Rat.num_nonneg.2 hc; omega)
    · intro h
      refine Classical.byContradiction fun hc => ?_
      exact Rat.not_le.2 h (Rat.num_nonneg.1 (by omega))
  refine ⟨?_, ?_⟩
  · rw [e]
    unfold ordQ
    by_cases h : q < 0
    · simp [h]
    · rw [if_neg h]
      split <;> simp [h]
  · rw [frN_zero]
    unfold ordQ
    by_cases h : q < 0
    · rw [if_pos h]
      constructor
      · intro h'; exact absurd h' (by decide)
      · intro h'; subst h'; exact absurd h (by decide)
    · rw [if_neg h]
      by_cases h0 : q = 0 <;> simp [h0]
theorem frN_int {q : Rat} (h : frS q = false) : q.num = (frN q : Int) := by
  have := fr_num q
  rw [h] at this
  exact this.symm
theorem ordQ_one {q : Rat} (h : frS q = false) : (ordQ 1 q < 0 ↔ q.den < frN q) ∧ (ordQ 1 q = 0 ↔ q.den = frN q) := by
  have hn := frN_int h
  have e : (1 : Rat) < q ↔ q.den < frN q := by
    rw [Rat.lt_iff, hn]
    simp
  have e2 : (1 : Rat) = q ↔ q.den = frN q := by
    constructor
    · rintro rfl
      rfl
    · intro hh
      have := fr_eq q
      rw [h, ← hh] at this
      rw [← this]
      have h0 := fr_den q
      show 1 = mkRat ((q.den : Nat) : Int) q.den
      rw [Rat.mkRat_eq_div]
      rw [Rat.div_def]
      exact (Rat.mul_inv_cancel _ (by
        intro hc
        have : ((q.den : Nat) : Rat) = 0 := by exact_mod_cast hc
        have : q.den = 0 := by exact_mod_cast this
        omega)).symm
  refine ⟨?_, ?_⟩
  · rw [← e]
    unfold ordQ
    by_cases h : 1 < q
    · simp [h]
    · rw [if_neg h]; split <;> simp [h]
  · rw [← e2]
    unfold ordQ
    by_cases h : 1 < q
    · rw [if_pos h]
      constructor
      · intro h'; exact absurd h' (by decide)
      · intro h'; rw [← h'] at h; exact absurd h (by decide)
    · rw [if_neg h]
      by_cases h0 : 1 = q <;> simp [h0]
/-- the reference's test of a range -/
def outB (lo hi : Int) (op : Bool) (q : Rat) : Bool :=
  decide (ordQ q (lo : Rat) < 0) || decide ((if 0 ≤ hi then ordQ (hi : Rat) q else 1) < 0) || (op && (decide (ordQ q (lo : Rat) = 0) || decide ((if 0 ≤ hi then ordQ (hi : Rat) q else 1) = 0)))
def rgLo : Rg → Int := fun _ => 0
def rgHi : Rg → Int
  | .positive => -1
  | _ => 1
def rgOp : Rg → Bool
  | .share => false
  | _ => true
theorem outB_in (k : Rg) (q : Rat) : outB (rgLo k) (rgHi k) (rgOp k) q = !inQ k q := by
  have h0 := ordQ_neg (q := q)
  have e0 : (((0 : Int) : Rat)) = 0 := rfl
  have e1 : (((1 : Int) : Rat)) = 1 := rfl
  cases hs : frS q with
  | true =>
    have h1 : ordQ q 0 < 0 := h0.1.2 hs
    unfold outB rgLo
    rw [e0, decide_eq_true h1]
    cases k <;> simp [inQ, hs]
  | false =>
    have h1 : ¬ ordQ q 0 < 0 := fun hc => by rw [h0.1.1 hc] at hs; cases hs
    obtain ⟨g1, g2⟩ := ordQ_one hs
    cases k
    · unfold outB rgLo rgHi rgOp
      rw [e0, e1, decide_eq_false h1, if_pos (by decide)]
      simp only [inQ, hs, Bool.false_and, Bool.or_false, Bool.false_or, Bool.not_false, Bool.true_and]
      rw [decide_eq_decide.2 g1]
      by_cases hh : frN q ≤ q.den
      · rw [decide_eq_true hh, decide_eq_false (by omega)]; rfl
      · rw [decide_eq_false hh, decide_eq_true (by omega)]; rfl
    · unfold outB rgLo rgHi rgOp
      rw [e0, e1, decide_eq_false h1, if_pos (by decide)]
      simp only [inQ, hs, Bool.true_and, Bool.false_or, Bool.not_false]
      rw [decide_eq_decide.2 g1, decide_eq_decide.2 g2, decide_eq_decide.2 h0.2]
      by_cases ha : 0 < frN q <;> by_cases hb : frN q < q.den
      · rw [decide_eq_true ha, decide_eq_true hb, decide_eq_false (show ¬ q.den < frN q by omega), decide_eq_false (show ¬ frN q = 0 by omega), decide_eq_false (show ¬ q.den = frN q by omega)]; rfl
      · rw [decide_eq_true ha, decide_eq_false hb]
        by_cases hc : q.den = frN q
        · rw [decide_eq_true hc]; simp
        · rw [decide_eq_true (show q.den < frN q by omega)]; simp
      · rw [decide_eq_false ha, decide_eq_true (show frN q = 0 by omega)]; simp
      · rw [decide_eq_false ha, decide_eq_true (show frN q = 0 by omega)]; simp
    · unfold outB rgLo rgHi rgOp
      rw [e0, decide_eq_false h1, if_neg (by decide)]
      simp only [inQ, hs, Bool.true_and, Bool.false_or, Bool.not_false]
      rw [decide_eq_decide.2 h0.2]
      by_cases ha : 0 < frN q
      · rw [decide_eq_true ha, decide_eq_false (show ¬ frN q = 0 by omega)]; simp
      · rw [decide_eq_false ha, decide_eq_true (show frN q = 0 by omega)]; simp
end Go.Proofs.YtfeicfohahfhiaaGreatDoor
