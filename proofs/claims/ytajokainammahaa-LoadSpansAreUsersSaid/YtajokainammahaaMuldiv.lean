/- Package load: users: muldiv, number, next. -/
import Derived.Test.YtajokainammahaaUsrMath
import Derived.Test.YtajokainammahaaLoad
import Derived.Test.YtajokainammahaaDiv64
import Derived.Test.YtajokainammahaaShelf
namespace Go.Proofs.Ytajokainammahaa
open Go Go.RowKit Go.Proofs

set_option maxHeartbeats 1000000 in
set_option maxRecDepth 100000 in
theorem muldiv_nat (a b c : Nat) (w : World) (ha : a ≤ 1000000000000) (hb : b ≤ 1000000000000) (hc : 1 ≤ c) (hc1 : c ≤ 1000000000000) (hq : a * b / c ≤ 1000000000000) :
    Calls Try.prog 59 #[.int .i64 a, .int .i64 b, .int .i64 c] w fun e w' => e = .returned (.tuple #[.int .i64 ((a * b / c : Nat) : Int), .bool (decide (0 < a * b % c))]) ∧ ∃ n, w' = w.drewN n := by
  obtain ⟨H, hH⟩ : ∃ H, H = a * b / 18446744073709551616 := ⟨_, rfl⟩
  obtain ⟨L, hL⟩ : ∃ L, L = a * b % 18446744073709551616 := ⟨_, rfl⟩
  have hsum : H * 18446744073709551616 + L = a * b := by rw [hH, hL]; omega
  have hHc : H < c := by
    have h1 : a * b < c * 1000000000001 := by
      have := Nat.lt_mul_div_succ (a * b) (show 0 < c by omega)
      exact Nat.lt_of_lt_of_le this (Nat.mul_le_mul_left c (by omega))
    rw [hH]
    refine Nat.div_lt_of_lt_mul ?_
    exact Nat.lt_of_lt_of_le h1 (by rw [Nat.mul_comm]; exact Nat.mul_le_mul_right c (by omega))
  have hL1 : L < 18446744073709551616 := by rw [hL]; omega
  have HM := Lib.hid (Try.bits_Mul64 a b (by omega) (by omega) w)
  rw [← hH, ← hL] at HM
  have HD := Lib.hid (div64_any H L c w hL1 hHc (by omega))
  rw [hsum] at HD
  obtain ⟨Q, hQ⟩ : ∃ Q, Q = a * b / c := ⟨_, rfl⟩
  obtain ⟨R, hR⟩ : ∃ R, R = a * b % c := ⟨_, rfl⟩
  rw [← hQ, ← hR] at HD ⊢
  rw [← hQ] at hq
  clear hQ hR hH hL hsum hHc hL1
  go_enter Try.func59, Try.ntmps59
  go_wp2_with fail
  refine HM.out.mono ?_
  rintro e w1 ⟨rfl, rfl⟩
  go_wp2_with fail
  refine HD.out.mono ?_
  rintro e w2 ⟨rfl, n, rfl⟩
  go_wp2
  go_ret2
  exact ⟨by simp, n, rfl⟩
/-- over integers -/
theorem muldiv_any (a b c : Int) (w : World) (ha0 : 0 ≤ a) (ha : a ≤ 1000000000000) (hb0 : 0 ≤ b) (hb : b ≤ 1000000000000) (hc : 1 ≤ c) (hc1 : c ≤ 1000000000000) (hq : a * b / c ≤ 1000000000000) :
    Calls Try.prog 59 #[.int .i64 a, .int .i64 b, .int .i64 c] w fun e w' => e = .returned (.tuple #[.int .i64 (a * b / c), .bool (decide (0 < a * b % c))]) ∧ ∃ n, w' = w.drewN n := by
  obtain ⟨a, rfl⟩ : ∃ n : Nat, a = n := ⟨a.toNat, by omega⟩
  obtain ⟨b, rfl⟩ : ∃ n : Nat, b = n := ⟨b.toNat, by omega⟩
  obtain ⟨c, rfl⟩ : ∃ n : Nat, c = n := ⟨c.toNat, by omega⟩
  have e1 : ((a : Int) * b / c) = ((a * b / c : Nat) : Int) := by simp
  have e2 : decide (0 < (a : Int) * b % c) = decide (0 < a * b % c) := by
    have : ((a : Int) * b % c) = ((a * b % c : Nat) : Int) := by simp
    rw [this]; exact decide_eq_decide.2 Int.natCast_pos
  rw [e1] at hq ⊢
  rw [e2]
  exact muldiv_nat a b c w (by omega) (by omega) (by omega) (by omega) (by omega)

set_option maxHeartbeats 1000000 in
set_option maxRecDepth 100000 in
theorem number_any (F x y p : Int) (w : World) (h : OkU (F, x, y)) (h0 : 0 ≤ p) (h1 : p ≤ F) :
    Calls Try.prog 42 #[.agg #[.int .i64 F, .int .i64 x, .int .i64 y], .int .i64 p] w fun e w' => e = .returned (.int .i64 (numS (F, x, y) p)) ∧ Below w.heap.size w w' := by
  have hr := num_range h h0 h1
  obtain ⟨o1, o2, o3, o4, o5, o6⟩ := h
  simp only at o1 o2 o3 o4 o5 o6 hr
  by_cases hxy : x ≤ y
  · have t1 : decide (x ≤ y) = true := by simpa using hxy
    have e1 : numS (F, x, y) p = (x + (y - x) * p / F) / 1000 := by unfold numS; simp only; rw [if_pos hxy]
    have a1 : 0 ≤ (y - x) * p := Int.mul_nonneg (by omega) h0
    have a2 : (y - x) * p ≤ (y - x) * F := Int.mul_le_mul_of_nonneg_left h1 (by omega)
    have a3 : 0 ≤ (y - x) * p / F := Int.ediv_nonneg a1 (by omega)
    have a4 : (y - x) * p / F ≤ y - x := by
      have := Int.ediv_le_ediv (show 0 < F by omega) a2
      rwa [Int.mul_ediv_cancel _ (by omega)] at this
    have HM := Lib.hid (fun W => muldiv_any (y - x) p F W (by omega) (by omega) h0 (by omega) o1 (by omega) (by omega))
    obtain ⟨q, hq⟩ : ∃ q, q = (y - x) * p / F := ⟨_, rfl⟩
    have HE := Lib.hid (e1.trans (by rw [← hq]) : numS (F, x, y) p = (x + q) / 1000)
    rw [← hq] at HM a3 a4
    obtain ⟨rs, hrs⟩ : ∃ rs, rs = decide (0 < (y - x) * p % F) := ⟨_, rfl⟩
    rw [← hrs] at HM
    have htd : (x + q).tdiv 1000 = (x + q) / 1000 := Int.tdiv_eq_ediv_of_nonneg (by omega)
    clear a1 a2 hq hrs e1 hr
    go_enter Try.func42, Try.ntmps42
    go_wp2_with fail
    refine (HM.out _).mono ?_
    rintro e w2 ⟨rfl, n, rfl⟩
    have hbl : Below w.heap.size w ((w.alloc (.cells #[.int .i64 F, .int .i64 x, .int .i64 y] 53)).drewN n) := below_drewN ((Below.refl _ w).alloc (Nat.le_refl _) _) n
    go_wp2
    go_ret
    exact ⟨by rw [HE.out]; rfl, hbl⟩
  · have t1 : decide (x ≤ y) = false := by simpa using hxy
    have e1 : numS (F, x, y) p = (x - cdivS ((x - y) * p) F) / 1000 := by unfold numS; simp only; rw [if_neg hxy]
    have a1 : 0 ≤ (x - y) * p := Int.mul_nonneg (by omega) h0
    have a2 : (x - y) * p ≤ F * (x - y) := by rw [Int.mul_comm F]; exact Int.mul_le_mul_of_nonneg_left h1 (by omega)
    have a4 : cdivS ((x - y) * p) F ≤ x - y := (cdiv_le (by omega)).2 a2
    have a3 : 0 ≤ (x - y) * p / F := Int.ediv_nonneg a1 (by omega)
    have a5 : cdivS ((x - y) * p) F = (x - y) * p / F + if 0 < (x - y) * p % F then 1 else 0 := rfl
    have a6 : (x - y) * p / F ≤ x - y := by rw [a5] at a4; split at a4 <;> omega
    have HM := Lib.hid (fun W => muldiv_any (x - y) p F W (by omega) (by omega) h0 (by omega) o1 (by omega) (by omega))
    obtain ⟨q, hq⟩ : ∃ q, q = (x - y) * p / F := ⟨_, rfl⟩
    obtain ⟨cq, hcq⟩ : ∃ cq, cq = cdivS ((x - y) * p) F := ⟨_, rfl⟩
    have HE := Lib.hid (e1.trans (by rw [← hcq]) : numS (F, x, y) p = (x - cq) / 1000)
    rw [← hq] at HM a3 a5 a6
    rw [← hcq] at a4 a5
    have htd : (x - cq).tdiv 1000 = (x - cq) / 1000 := Int.tdiv_eq_ediv_of_nonneg (by omega)
    have hbl := fun n => below_drewN ((Below.refl w.heap.size w).alloc (Nat.le_refl _) (.cells #[.int .i64 F, .int .i64 x, .int .i64 y] 53)) n
    clear a1 a2 hq hcq e1 hr
    by_cases hrs : 0 < (x - y) * p % F
    · have hd : decide (0 < (x - y) * p % F) = true := by simpa using hrs
      rw [if_pos hrs] at a5
      simp only [hd] at HM
      obtain rfl : cq = q + 1 := a5
      clear hrs hd
      go_enter Try.func42, Try.ntmps42
      go_wp2_with fail
      refine (HM.out _).mono ?_
      rintro e w2 ⟨rfl, n, rfl⟩
      go_wp2
      go_ret
      exact ⟨by rw [HE.out]; rfl, hbl n⟩
    · have hd : decide (0 < (x - y) * p % F) = false := by simpa using hrs
      rw [if_neg hrs] at a5
      simp only [hd] at HM
      obtain rfl : cq = q := by omega
      clear a5 hrs hd
      go_enter Try.func42, Try.ntmps42
      go_wp2_with fail
      refine (HM.out _).mono ?_
      rintro e w2 ⟨rfl, n, rfl⟩
      go_wp2
      go_ret
      exact ⟨by rw [HE.out]; rfl, hbl n⟩

set_option maxHeartbeats 1000000 in
set_option maxRecDepth 100000 in
theorem next_any (F x y n : Int) (w : World) (h : OkU (F, x, y)) (hn0 : 0 ≤ n) (hn1 : n ≤ 1000000) (hxy : x ≠ y) (hup : x ≤ y → x ≤ (n + 1) * 1000 ∧ (n + 1) * 1000 ≤ y) (hdn : ¬ x ≤ y → y < n * 1000 ∧ n * 1000 ≤ x) :
    Calls Try.prog 41 #[.agg #[.int .i64 F, .int .i64 x, .int .i64 y], .int .i64 n] w fun e w' => e = .returned (.int .i64 (nextS (F, x, y) n)) ∧ Below w.heap.size w w' := by
  obtain ⟨o1, o2, o3, o4, o5, o6⟩ := h
  simp only at o1 o2 o3 o4 o5 o6
  have hbl := fun n => below_drewN ((Below.refl w.heap.size w).alloc (Nat.le_refl _) (.cells #[.int .i64 F, .int .i64 x, .int .i64 y] 53)) n
  by_cases hle : x ≤ y
  · obtain ⟨u1, u2⟩ := hup hle
    have t1 : decide (x ≤ y) = true := by simpa using hle
    have e1 : nextS (F, x, y) n = cdivS (((n + 1) * 1000 - x) * F) (y - x) := by unfold nextS; simp only; rw [if_pos hle]
    have a1 : 0 ≤ ((n + 1) * 1000 - x) * F := Int.mul_nonneg (by omega) (by omega)
    have a2 : ((n + 1) * 1000 - x) * F ≤ (y - x) * F := Int.mul_le_mul_of_nonneg_right (by omega) (by omega)
    have a4 : cdivS (((n + 1) * 1000 - x) * F) (y - x) ≤ F := (cdiv_le (by omega)).2 a2
    have a3 : 0 ≤ ((n + 1) * 1000 - x) * F / (y - x) := Int.ediv_nonneg a1 (by omega)
    have a5 : cdivS (((n + 1) * 1000 - x) * F) (y - x) = ((n + 1) * 1000 - x) * F / (y - x) + if 0 < ((n + 1) * 1000 - x) * F % (y - x) then 1 else 0 := rfl
    have a6 : ((n + 1) * 1000 - x) * F / (y - x) ≤ F := by rw [a5] at a4; split at a4 <;> omega
    have HM := Lib.hid (fun W => muldiv_any ((n + 1) * 1000 - x) F (y - x) W (by omega) (by omega) (by omega) (by omega) (by omega) (by omega) (by omega))
    obtain ⟨q, hq⟩ : ∃ q, q = ((n + 1) * 1000 - x) * F / (y - x) := ⟨_, rfl⟩
    obtain ⟨cq, hcq⟩ : ∃ cq, cq = cdivS (((n + 1) * 1000 - x) * F) (y - x) := ⟨_, rfl⟩
    have HE := Lib.hid (e1.trans hcq.symm)
    rw [← hq] at HM a3 a5 a6
    rw [← hcq] at a4 a5
    clear a1 a2 hq hcq e1 hup hdn
    by_cases hrs : 0 < ((n + 1) * 1000 - x) * F % (y - x)
    · have hd : decide (0 < ((n + 1) * 1000 - x) * F % (y - x)) = true := by simpa using hrs
      rw [if_pos hrs] at a5
      simp only [hd] at HM
      obtain rfl : cq = q + 1 := a5
      clear hrs hd
      go_enter Try.func41, Try.ntmps41
      go_wp2_with fail
      refine (HM.out _).mono ?_
      rintro e w2 ⟨rfl, n, rfl⟩
      go_wp2
      go_ret
      exact ⟨by rw [HE.out]; rfl, hbl n⟩
    · have hd : decide (0 < ((n + 1) * 1000 - x) * F % (y - x)) = false := by simpa using hrs
      rw [if_neg hrs] at a5
      simp only [hd] at HM
      obtain rfl : cq = q := by omega
      clear a5 hrs hd
      go_enter Try.func41, Try.ntmps41
      go_wp2_with fail
      refine (HM.out _).mono ?_
      rintro e w2 ⟨rfl, n, rfl⟩
      go_wp2
      go_ret
      exact ⟨by rw [HE.out]; rfl, hbl n⟩
  · obtain ⟨u1, u2⟩ := hdn hle
    have t1 : decide (x ≤ y) = false := by simpa using hle
    have e1 : nextS (F, x, y) n = (x - n * 1000) * F / (x - y) + 1 := by unfold nextS; simp only; rw [if_neg hle]
    have a1 : 0 ≤ (x - n * 1000) * F := Int.mul_nonneg (by omega) (by omega)
    have a2 : (x - n * 1000) * F ≤ (x - y) * F := Int.mul_le_mul_of_nonneg_right (by omega) (by omega)
    have a3 : 0 ≤ (x - n * 1000) * F / (x - y) := Int.ediv_nonneg a1 (by omega)
    have a6 : (x - n * 1000) * F / (x - y) ≤ F := by
      have := Int.ediv_le_ediv (show 0 < x - y by omega) a2
      rwa [Int.mul_ediv_cancel_left _ (by omega)] at this
    have HM := Lib.hid (fun W => muldiv_any (x - n * 1000) F (x - y) W (by omega) (by omega) (by omega) (by omega) (by omega) (by omega) (by omega))
    obtain ⟨q, hq⟩ : ∃ q, q = (x - n * 1000) * F / (x - y) := ⟨_, rfl⟩
    have HE := Lib.hid (e1.trans (by rw [← hq]) : nextS (F, x, y) n = q + 1)
    rw [← hq] at HM a3 a6
    obtain ⟨rs, hrs⟩ : ∃ rs, rs = decide (0 < (x - n * 1000) * F % (x - y)) := ⟨_, rfl⟩
    rw [← hrs] at HM
    clear a1 a2 hq e1 hup hdn hrs
    go_enter Try.func41, Try.ntmps41
    go_wp2_with fail
    refine (HM.out _).mono ?_
    rintro e w2 ⟨rfl, n, rfl⟩
    go_wp2
    go_ret
    exact ⟨by rw [HE.out]; rfl, hbl n⟩
end Go.Proofs.Ytajokainammahaa
