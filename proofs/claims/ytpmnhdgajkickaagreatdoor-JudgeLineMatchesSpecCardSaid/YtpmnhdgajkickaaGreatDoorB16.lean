import Derived.Test.YtpmnhdgajkickaaGreatDoorFracPlus
import Derived.Test.YtpmnhdgajkickaaGreatDoorB8
import Derived.Test.YtpmnhdgajkickaaGreatDoorB0
import Derived.WalkSpells
import Derived.WalkLawsBesides
import Derived.Deep.QuietTactic
import Derived.BigQuiet
import Derived.Handy
import Derived.Test.YtpmnhdgajkickaaGreatDoorB1
import Derived.Test.YtpmnhdgajkickaaGreatDoorB11
import Derived.Deep.RegionHeld3
/- How large the parts of fractions can be: plain. -/
namespace Go.Proofs.YtpmnhdgajkickaaGreatDoor

theorem mk_le (b : Bool) (n : Nat) {d : Nat} (hd : 0 < d) : frN (mkRat (sg b n) d) ≤ n ∧ (mkRat (sg b n) d).den ≤ d := by
  rcases Nat.eq_zero_or_pos n with rfl | h
  · rw [low_zero]; exact ⟨Nat.le_refl _, hd⟩
  · obtain ⟨_, h2, h3⟩ := low_pos (b := b) h hd
    rw [h2, h3]
    exact ⟨Nat.div_le_self _ _, Nat.div_le_self _ _⟩
theorem sz_mul {n m : Nat} {a b : Rat} (ha : Sz n a) (hb : Sz m b) : Sz (n + m) (a * b) := by
  have h := mk_le (frS a != frS b) (frN a * frN b) (Nat.mul_pos a.den_pos b.den_pos)
  rw [times_eq] at h
  refine ⟨?_, ?_⟩
  · exact Nat.lt_of_le_of_lt h.1 (by rw [Nat.pow_add]; exact Nat.mul_lt_mul'' ha.1 hb.1)
  · exact Nat.lt_of_le_of_lt h.2 (by rw [Nat.pow_add]; exact Nat.mul_lt_mul'' ha.2 hb.2)
theorem sz_add {n m : Nat} {a b : Rat} (ha : Sz n a) (hb : Sz m b) : Sz (n + m + 1) (a + b) := by
  have hx : frN a * b.den < T4 ^ (n + m) := by rw [Nat.pow_add]; exact Nat.mul_lt_mul'' ha.1 hb.2
  have hy : frN b * a.den < T4 ^ (n + m) := by rw [Nat.pow_add, Nat.mul_comm]; exact Nat.mul_lt_mul'' ha.2 hb.1
  have hd : a.den * b.den < T4 ^ (n + m) := by rw [Nat.pow_add]; exact Nat.mul_lt_mul'' ha.2 hb.2
  have hp := Nat.mul_pos a.den_pos b.den_pos
  have e : T4 ^ (n + m + 1) = T4 ^ (n + m) * 10000 := Nat.pow_succ T4 (n + m)
  have key : frN (a + b) ≤ frN a * b.den + frN b * a.den ∧ (a + b).den ≤ a.den * b.den := by
    by_cases hs : frS a = frS b
    · have h := mk_le (frS a) (frN a * b.den + frN b * a.den) hp
      rw [plus_same hs] at h; exact h
    · rcases Nat.le_total (frN b * a.den) (frN a * b.den) with hc | hc
      · have h := mk_le (frS a) (frN a * b.den - frN b * a.den) hp
        rw [plus_ge hs hc] at h; exact ⟨by omega, h.2⟩
      · have h := mk_le (frS b) (frN b * a.den - frN a * b.den) hp
        rw [plus_lt hs hc] at h; exact ⟨by omega, h.2⟩
  exact ⟨by rw [e]; omega, by rw [e]; omega⟩
theorem sz_sub {n m : Nat} {a b : Rat} (ha : Sz n a) (hb : Sz m b) : Sz (n + m + 1) (a - b) := by
  rw [Rat.sub_eq_add_neg]; exact sz_add ha (sz_neg hb)
end Go.Proofs.YtpmnhdgajkickaaGreatDoor

/- ref0.Digits: the number with these digits. -/
namespace Go.Proofs.YtpmnhdgajkickaaGreatDoor
open Go Go.RowKit Go.Proofs

end Go.Proofs.YtpmnhdgajkickaaGreatDoor

/- ref0.FromRatio. Printed by gen_fromr.py. -/
namespace Go.Proofs.YtpmnhdgajkickaaGreatDoor
open Go Go.RowKit Go.Proofs

end Go.Proofs.YtpmnhdgajkickaaGreatDoor

/- Package dynamometerref10: CheckRatio. -/
namespace Go.Proofs.YtpmnhdgajkickaaGreatDoor
open Go Go.RowKit Go.Proofs

theorem cRt_form {a b : List UInt8} (h : dgB (unsg a) = false ∨ dgB b = false ∨ b = [48] ∨ a = [45, 48]) : cRt a b = 2 := by unfold cRt codeRt; rw [if_pos h]
theorem cRt_size {a b : List UInt8} (h : ¬ (dgB (unsg a) = false ∨ dgB b = false ∨ b = [48] ∨ a = [45, 48])) (h2 : 2000 < (unsg a).length ∨ 2000 < b.length) : cRt a b = 3 := by unfold cRt codeRt; rw [if_neg h, if_pos h2]
theorem cRt_gcd {a b : List UInt8} (h : ¬ (dgB (unsg a) = false ∨ dgB b = false ∨ b = [48] ∨ a = [45, 48])) (h2 : ¬ (2000 < (unsg a).length ∨ 2000 < b.length)) (G : Nat) (hG : G = Nat.gcd (dgV (unsg a)) (dgV b)) : cRt a b = if G = 1 then 0 else 2 := by
  unfold cRt codeRt
  rw [if_neg h, if_neg h2, hG]
theorem cmp_one {x : Nat} : (cmpN x 1 != 0) = decide (x ≠ 1) := by
  unfold cmpN
  by_cases h : x = 1
  · subst h; rfl
  · rw [decide_eq_true h]
    split
    · rfl
    · first | rfl | (rw [if_neg h]; rfl) | (split <;> first | rfl | omega)
end Go.Proofs.YtpmnhdgajkickaaGreatDoor
