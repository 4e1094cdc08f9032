/- The walks of the functions on buckets. -/
import Derived.Test.YtgmbgclhljobaaaDoorRows
import Derived.Test.YtgmbgclhljobaaaDoorBuckMath
import Derived.Test.YtgmbgclhljobaaaDoorShelf
import Derived.Handy
import Derived.WalkSpells
import Derived.WalkLawsBesides
import Derived.Deep.QuietTactic
import Derived.BigQuiet
import Derived.Lib.Hide
namespace Go.Proofs.YtgmbgclhljobaaaDoor
open Go.RowKit

set_option maxHeartbeats 400000 in
theorem bucket_lo (b v : Int) (w : World) (hb : 2 ≤ b) (hb' : b ≤ 8) (_hv : 0 ≤ v) (hlt : v < 2 * hB b) :
    Calls Tryd.prog 41 #[.int .i64 b, .int .i64 v] w fun e w' => e = .returned (.int .i64 v) ∧ w = w' := by
  have hM := hB_two b hb
  obtain ⟨hH1, hH2⟩ := hB_bd b hb hb'
  generalize hB b = H at *
  go_enter Tryd.func41, Tryd.ntmps41
  go_wp2
  go_ret
  exact ⟨rfl, rfl⟩

set_option maxHeartbeats 400000 in
theorem bucket_hi (b v : Int) (w : World) (hb : 2 ≤ b) (hb' : b ≤ 8) (hv : v < 1125899906842624) (hlt : 2 * hB b ≤ v) :
    Calls Tryd.prog 41 #[.int .i64 b, .int .i64 v] w fun e w' => e = .returned (.int .i64 (bkt b v)) ∧ ∃ n, w' = w.drewN n := by
  have hM := hB_two b hb
  have hH : (2 : Int) ^ (b.toNat - 1) = hB b := rfl
  obtain ⟨hH1, hH2⟩ := hB_bd b hb hb'
  obtain ⟨k1, k2, k3, k4, k5, k6, hfin⟩ := bkt_words b v hb hb' hv hlt
  have Hfin := Lib.hid hfin
  clear hfin
  generalize hB b = H at *
  go_enter Tryd.func41, Tryd.ntmps41
  go_wp2_with (go_at_call 80; refine (Tryd.bits_Len _ _ (by omega) (by omega)).mono ?_; rintro e w' ⟨rfl, rfl⟩)
  go_quiet (fail)
  go_wp2
  go_ret
  refine ⟨?_, _, rfl⟩
  rw [Hfin.out]; rfl

theorem bucket_any (b v : Int) (w : World) (hb : 2 ≤ b) (hb' : b ≤ 8) (hv0 : 0 ≤ v) (hv : v < 1125899906842624) :
    Calls Tryd.prog 41 #[.int .i64 b, .int .i64 v] w fun e w' => e = .returned (.int .i64 (bkt b v)) ∧ ∃ n, w' = w.drewN n := by
  by_cases h : v < 2 * hB b
  · refine (bucket_lo b v w hb hb' hv0 h).mono ?_
    rintro e w' ⟨rfl, rfl⟩
    exact ⟨by unfold bkt; rw [if_pos h], 0, rfl⟩
  · exact bucket_hi b v w hb hb' hv (by omega)

/-- a number of bits -/
def fineB (b : Int) : Bool := decide (2 ≤ b) && decide (b ≤ 8)

theorem bitsForm_any (b : Int) (w : World) :
    Calls Tryd.prog 53 #[.int .i64 b] w fun e w' => e = .returned (.bool (fineB b)) ∧ w = w' := by
  by_cases h1 : 2 ≤ b
  · by_cases h2 : b ≤ 8
    · go_enter Tryd.func53, Tryd.ntmps53
      go_wp2
      go_ret
      exact ⟨by simp [fineB, h1, h2], rfl⟩
    · go_enter Tryd.func53, Tryd.ntmps53
      go_wp2
      go_ret
      exact ⟨by simp [fineB, h1, h2], rfl⟩
  · have h1' : decide (2 ≤ b) = false := by simpa using h1
    go_enter Tryd.func53, Tryd.ntmps53
    go_wp2
    go_ret
    exact ⟨by unfold fineB; rw [h1']; rfl, rfl⟩

/-- a bucket is one of a value -/
def fineK (b k : Int) : Bool := decide (0 ≤ k) && decide (k ≤ maxB b)

theorem bucketForm_any (b k : Int) (w : World) (hb : 2 ≤ b) (hb' : b ≤ 8) :
    Calls Tryd.prog 54 #[.int .i64 b, .int .i64 k] w fun e w' => e = .returned (.bool (fineK b k)) ∧ ∃ n, w' = w.drewN n := by
  have hm := bkt_max b hb hb'
  by_cases h1 : 0 ≤ k
  · by_cases h2 : k ≤ maxB b
    · go_enter Tryd.func54, Tryd.ntmps54
      go_wp2_with (go_at_call 41; refine (bucket_any _ _ _ hb hb' (by omega) (by omega)).mono ?_; rintro e w' ⟨rfl, n, rfl⟩)
      go_ret
      exact ⟨by simp [fineK, h1, h2], _, rfl⟩
    · go_enter Tryd.func54, Tryd.ntmps54
      go_wp2_with (go_at_call 41; refine (bucket_any _ _ _ hb hb' (by omega) (by omega)).mono ?_; rintro e w' ⟨rfl, n, rfl⟩)
      go_ret
      exact ⟨by simp [fineK, h1], _, rfl⟩
  · have h1' : decide (0 ≤ k) = false := by simpa using h1
    go_enter Tryd.func54, Tryd.ntmps54
    go_wp2
    go_ret
    exact ⟨by unfold fineK; rw [h1']; rfl, 0, rfl⟩
theorem ofInt_i64 (a : Nat) (ha : a < 9223372036854775808) : (BitVec.ofInt 64 (a : Int)).toNat = a := by
  rw [BitVec.ofInt_natCast, BitVec.toNat_ofNat]; exact Nat.mod_eq_of_lt (by omega)
theorem i64_and_nat (a b : Nat) (ha : a < 9223372036854775808) (hb : b < 9223372036854775808) : bits .and .i64 (a : Int) (b : Int) = ((a &&& b : Nat) : Int) := by
  have hx : a &&& b < 2 ^ 63 := Nat.and_lt_two_pow _ (by omega)
  show IntKind.i64.wrap ((BitVec.ofInt 64 (a : Int) &&& BitVec.ofInt 64 (b : Int)).toNat : Int) = _
  rw [BitVec.toNat_and, ofInt_i64 a ha, ofInt_i64 b hb, IntKind.wrap_i64]
  omega
theorem and_mask (x : Int) (n : Nat) (h0 : 0 ≤ x) (h1 : x < 9223372036854775808) (hn : n ≤ 62) : bits .and .i64 x (2 ^ n - 1) = x % 2 ^ n := by
  obtain ⟨x, rfl⟩ := Int.eq_ofNat_of_zero_le h0
  have hp : 0 < 2 ^ n := Nat.pow_pos (by omega)
  have hp2 : 2 ^ n ≤ 2 ^ 62 := Nat.pow_le_pow_right (by omega) hn
  have e : ((2 : Int) ^ n - 1) = ((2 ^ n - 1 : Nat) : Int) := by rw [Int.natCast_sub (by omega)]; simp
  rw [e, i64_and_nat _ _ (by omega) (by omega), Nat.and_two_pow_sub_one_eq_mod]
  simp

set_option maxHeartbeats 400000 in
theorem limits_any (b k : Int) (w : World) (hb : 2 ≤ b) (hb' : b ≤ 8) (hk : 0 ≤ k) (hk' : k ≤ maxB b) :
    Calls Tryd.prog 48 #[.int .i64 b, .int .i64 k] w fun e w' => e = .returned (.tuple #[.int .i64 (loB b k), .int .i64 (hiB b k)]) ∧ ∃ n, w' = w.drewN n := by
  have hM := hB_two b hb
  have hH : (2 : Int) ^ (b.toNat - 1) = hB b := rfl
  obtain ⟨hH1, hH2⟩ := hB_bd b hb hb'
  have hmx := maxB_bd b hb hb'
  by_cases hlt : k < 2 * hB b
  · have hfin : loB b k = k ∧ hiB b k = k := by
      unfold hiB loB lJ lR; simp [hlt, pF, pS]
    have Hfin := Lib.hid hfin
    clear hfin
    generalize hB b = H at *
    go_enter Tryd.func48, Tryd.ntmps48
    go_wp2
    go_ret2
    refine ⟨?_, 0, rfl⟩
    rw [Hfin.out.1, Hfin.out.2]; rfl
  · have hand := and_mask (k - 2 * hB b) (b.toNat - 1) (by omega) (by omega) (by omega)
    rw [hH] at hand
    obtain ⟨q0, q1, r0, r1, e1, e2, l0, l1⟩ := lim_words b k hb hb' hk hk' (by omega)
    have l2 := (lim_bd b k hb hb' hk hk').2.1
    have hfin := And.intro e1 e2
    have g1 : 0 ≤ (k % hB b + hB b) * 2 ^ ((k - 2 * hB b) / hB b + 1).toNat ∧ (k % hB b + hB b) * 2 ^ ((k - 2 * hB b) / hB b + 1).toNat ≤ 1125899906842624 := by omega
    have g2 : 0 ≤ (k % hB b + hB b + 1) * 2 ^ ((k - 2 * hB b) / hB b + 1).toNat ∧ (k % hB b + hB b + 1) * 2 ^ ((k - 2 * hB b) / hB b + 1).toNat ≤ 1125899906842624 := by omega
    have Hfin := Lib.hid hfin
    clear hfin e1 e2 l0 l1 l2
    generalize hB b = H at *
    go_enter Tryd.func48, Tryd.ntmps48
    go_wp2
    go_quiet (fail)
    go_wp2
    go_quiet (fail)
    go_wp2
    go_ret2
    refine ⟨?_, _, World.drewN_drewN _ _ _⟩
    rw [Hfin.out.1, Hfin.out.2]; rfl

/-- a value -/
def fineV (v : Int) : Bool := decide (0 ≤ v) && decide (v ≤ 1125899906842623)


end Go.Proofs.YtgmbgclhljobaaaDoor
