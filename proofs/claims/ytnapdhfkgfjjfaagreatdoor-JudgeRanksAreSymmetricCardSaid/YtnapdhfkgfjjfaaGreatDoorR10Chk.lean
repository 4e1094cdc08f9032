/- Package dynamometerref10: CheckRatio. -/
import Derived.Test.YtnapdhfkgfjjfaaGreatDoorG3
import Derived.Test.YtnapdhfkgfjjfaaGreatDoorG27
import Derived.Test.YtnapdhfkgfjjfaaGreatDoorG20
import Derived.Deep.RegionHeld3
namespace Go.Proofs.YtnapdhfkgfjjfaaGreatDoor
open Go Go.RowKit Go.Proofs

theorem cRt_form {a b : List UInt8} (h : dgB (unsg a) = false ∨ dgB b = false ∨ b = [48] ∨ a = [45, 48]) : cRt a b = 2 := by unfold cRt codeRt; rw [if_pos h]
theorem cRt_size {a b : List UInt8} (h : ¬ (dgB (unsg a) = false ∨ dgB b = false ∨ b = [48] ∨ a = [45, 48])) (h2 : 2000 < (unsg a).length ∨ 2000 < b.length) : cRt a b = 3 := by unfold cRt codeRt; rw [if_neg h, if_pos h2]
theorem cRt_gcd {a b : List UInt8} (h : ¬ (dgB (unsg a) = false ∨ dgB b = false ∨ b = [48] ∨ a = [45, 48])) (h2 : ¬ (2000 < (unsg a).length ∨ 2000 < b.length)) (G : Nat) (hG : G = Nat.gcd (dgV (unsg a)) (dgV b)) : cRt a b = if G = 1 then 0 else 2 := by
  unfold cRt codeRt
  rw [if_neg h, if_neg h2, hG]
theorem cmp_one {x : Nat} : (cmpN x 1 != 0) = decide (x ≠ 1) := by
  unfold cmpN
  by_cases h : x = 1
  · subst h; rfl
  · rw [decide_eq_true h]
    split
    · rfl
    · first | rfl | (rw [if_neg h]; rfl) | (split <;> first | rfl | omega)
end Go.Proofs.YtnapdhfkgfjjfaaGreatDoor
