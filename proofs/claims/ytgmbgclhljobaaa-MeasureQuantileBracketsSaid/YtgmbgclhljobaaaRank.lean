/- bits.Div64 where the high word is 0; the rank of a quantile. -/
import Derived.Test.YtgmbgclhljobaaaQntMath
import Derived.Test.YtgmbgclhljobaaaShelf
import Derived.Deep.QuietTactic
import Derived.BigQuiet
namespace Go.Proofs.Ytgmbgclhljobaaa
open Go Go.RowKit Go.Proofs

set_option maxHeartbeats 1000000 in
set_option maxRecDepth 100000 in
theorem div64_lo (lo y : Int) (w : World) (h0 : 0 ≤ lo) (h1 : lo ≤ 18446744073709551615) (hy : 1 ≤ y) (hy' : y ≤ 18446744073709551615) :
    Calls Try.prog 37 #[.int .u64 0, .int .u64 lo, .int .u64 y] w fun e w' => e = .returned (.tuple #[.int .u64 (lo / y), .int .u64 (lo % y)]) ∧ ∃ n, w' = w.drewN n := by
  have t1 : (y == 0) = false := by simp; omega
  have t2 : decide (y ≤ 0) = false := by simp; omega
  go_enter Try.func37, Try.ntmps37
  go_wp2_with fail
  go_quiet (fail)
  go_wp2
  go_ret2
  exact ⟨rfl, _, rfl⟩

theorem mul64_lo (x y : Nat) (w : World) (hx : x < 18446744073709551616) (hy : y < 18446744073709551616) (h : x * y < 18446744073709551616) :
    Calls Try.prog 36 #[.int .u64 x, .int .u64 y] w fun e w' => e = .returned (.tuple #[.int .u64 0, .int .u64 ((x * y : Nat) : Int)]) ∧ w = w' :=
  (Try.bits_Mul64 x y hx hy w).mono fun e w' ⟨he, hw⟩ => ⟨by rw [he, Nat.div_eq_of_lt h, Nat.mod_eq_of_lt h]; rfl, hw.symm⟩

set_option maxHeartbeats 1000000 in
set_option maxRecDepth 100000 in
theorem rank_any (n num den : Nat) (w : World) (hn : n ≤ 1000000) (h1 : num ≤ den) (hd : 1 ≤ den) (hd' : den ≤ 1000000) :
    Calls Try.prog 25 #[.int .i64 n, .int .i64 num, .int .i64 den] w fun e w' => e = .returned (.int .i64 (rnk n num den)) ∧ ∃ k, w' = w.drewN k := by
  have hp : n * num ≤ 1000000 * 1000000 := Nat.mul_le_mul hn (by omega)
  have M := Lib.hid (fun w => mul64_lo n num w (by omega) (by omega) (by omega))
  obtain ⟨p, hpe⟩ : ∃ p, p = n * num := ⟨_, rfl⟩
  have HR := Lib.hid (show rnk n num den = max 1 ((p : Int) / den + if 0 < (p : Int) % den then 1 else 0) by rw [hpe]; unfold rnk; simp)
  rw [← hpe] at M hp
  clear hpe
  have q0 : (0 : Int) ≤ (p : Int) / den := Int.ediv_nonneg (by omega) (by omega)
  have q1 : (p : Int) / den ≤ 1000000000000 := Int.le_trans (Int.ediv_le_self _ (by omega)) (by omega)
  have r0 : (0 : Int) ≤ (p : Int) % den := Int.emod_nonneg _ (by omega)
  have D := Lib.hid (fun w => div64_lo p den w (by omega) (by omega) (by omega) (by omega))
  obtain ⟨q, hq⟩ : ∃ q : Int, q = (p : Int) / den := ⟨_, rfl⟩
  obtain ⟨r, hr⟩ : ∃ r : Int, r = (p : Int) % den := ⟨_, rfl⟩
  rw [← hq, ← hr] at HR D
  rw [← hq] at q0 q1
  rw [← hr] at r0
  clear hq hr
  by_cases hr : 0 < r
  · go_enter Try.func25, Try.ntmps25
    go_wp2_with fail
    refine (M.out _).mono ?_; rintro e w' ⟨rfl, rfl⟩
    go_wp2_with fail
    refine (D.out _).mono ?_; rintro e w' ⟨rfl, k1, rfl⟩
    go_wp2
    go_ret
    exact ⟨by rw [HR.out, if_pos hr]; rfl, _, rfl⟩
  · have tr : decide (0 < r) = false := by simpa using hr
    go_enter Try.func25, Try.ntmps25
    go_wp2_with fail
    refine (M.out _).mono ?_; rintro e w' ⟨rfl, rfl⟩
    go_wp2_with fail
    refine (D.out _).mono ?_; rintro e w' ⟨rfl, k1, rfl⟩
    go_wp2
    go_ret
    exact ⟨by rw [HR.out, if_neg (by omega), Int.add_zero]; rfl, _, rfl⟩
end Go.Proofs.Ytgmbgclhljobaaa
