import Derived.Test.YtepfmoaihhonlaaGreatDoorRows
import Derived.Test.YtepfmoaihhonlaaGreatDoorBuckMath
import Derived.Test.YtepfmoaihhonlaaGreatDoorShelf
import Derived.Handy
import Derived.WalkSpells
import Derived.WalkLawsBesides
import Derived.Deep.QuietTactic
import Derived.BigQuiet
import Derived.Lib.Hide
import Derived.Below
import Derived.Laws.OwnMore
import Derived.Laws.IdiomCopy
import Derived.Deep.Draws
import Derived.Deep.Upon
import Derived.Laws.Rows
/- The walks of the functions on buckets. -/
namespace Go.Proofs.YtepfmoaihhonlaaGreatDoor
open Go.RowKit

set_option maxHeartbeats 400000 in
theorem bucket_lo (b v : Int) (w : World) (hb : 2 ≤ b) (hb' : b ≤ 8) (_hv : 0 ≤ v) (hlt : v < 2 * hB b) :
    Calls Tryz.prog 89 #[.int .i64 b, .int .i64 v] w fun e w' => e = .returned (.int .i64 v) ∧ w = w' := by
  have hM := hB_two b hb
  obtain ⟨hH1, hH2⟩ := hB_bd b hb hb'
  generalize hB b = H at *
  go_enter Tryz.func89, Tryz.ntmps89
  go_wp2
  go_ret
  exact ⟨rfl, rfl⟩

set_option maxHeartbeats 400000 in
theorem bucket_hi (b v : Int) (w : World) (hb : 2 ≤ b) (hb' : b ≤ 8) (hv : v < 1125899906842624) (hlt : 2 * hB b ≤ v) :
    Calls Tryz.prog 89 #[.int .i64 b, .int .i64 v] w fun e w' => e = .returned (.int .i64 (bkt b v)) ∧ ∃ n, w' = w.drewN n := by
  have hM := hB_two b hb
  have hH : (2 : Int) ^ (b.toNat - 1) = hB b := rfl
  obtain ⟨hH1, hH2⟩ := hB_bd b hb hb'
  obtain ⟨k1, k2, k3, k4, k5, k6, hfin⟩ := bkt_words b v hb hb' hv hlt
  have Hfin := Lib.hid hfin
  clear hfin
  generalize hB b = H at *
  go_enter Tryz.func89, Tryz.ntmps89
  go_wp2_with (go_at_call 149; refine (Tryz.bits_Len _ _ (by omega) (by omega)).mono ?_; rintro e w' ⟨rfl, rfl⟩)
  go_quiet (fail)
  go_wp2
  go_ret
  refine ⟨?_, _, rfl⟩
  rw [Hfin.out]; rfl

theorem bucket_any (b v : Int) (w : World) (hb : 2 ≤ b) (hb' : b ≤ 8) (hv0 : 0 ≤ v) (hv : v < 1125899906842624) :
    Calls Tryz.prog 89 #[.int .i64 b, .int .i64 v] w fun e w' => e = .returned (.int .i64 (bkt b v)) ∧ ∃ n, w' = w.drewN n := by
  by_cases h : v < 2 * hB b
  · refine (bucket_lo b v w hb hb' hv0 h).mono ?_
    rintro e w' ⟨rfl, rfl⟩
    exact ⟨by unfold bkt; rw [if_pos h], 0, rfl⟩
  · exact bucket_hi b v w hb hb' hv (by omega)

/-- a number of bits -/
def fineB (b : Int) : Bool := decide (2 ≤ b) && decide (b ≤ 8)

theorem bitsForm_any (b : Int) (w : World) :
    Calls Tryz.prog 152 #[.int .i64 b] w fun e w' => e = .returned (.bool (fineB b)) ∧ w = w' := by
  by_cases h1 : 2 ≤ b
  · by_cases h2 : b ≤ 8
    · go_enter Tryz.func152, Tryz.ntmps152
      go_wp2
      go_ret
      exact ⟨by simp [fineB, h1, h2], rfl⟩
    · go_enter Tryz.func152, Tryz.ntmps152
      go_wp2
      go_ret
      exact ⟨by simp [fineB, h1, h2], rfl⟩
  · have h1' : decide (2 ≤ b) = false := by simpa using h1
    go_enter Tryz.func152, Tryz.ntmps152
    go_wp2
    go_ret
    exact ⟨by unfold fineB; rw [h1']; rfl, rfl⟩

/-- a bucket is one of a value -/
def fineK (b k : Int) : Bool := decide (0 ≤ k) && decide (k ≤ maxB b)

theorem bucketForm_any (b k : Int) (w : World) (hb : 2 ≤ b) (hb' : b ≤ 8) :
    Calls Tryz.prog 153 #[.int .i64 b, .int .i64 k] w fun e w' => e = .returned (.bool (fineK b k)) ∧ ∃ n, w' = w.drewN n := by
  have hm := bkt_max b hb hb'
  by_cases h1 : 0 ≤ k
  · by_cases h2 : k ≤ maxB b
    · go_enter Tryz.func153, Tryz.ntmps153
      go_wp2_with (go_at_call 89; refine (bucket_any _ _ _ hb hb' (by omega) (by omega)).mono ?_; rintro e w' ⟨rfl, n, rfl⟩)
      go_ret
      exact ⟨by simp [fineK, h1, h2], _, rfl⟩
    · go_enter Tryz.func153, Tryz.ntmps153
      go_wp2_with (go_at_call 89; refine (bucket_any _ _ _ hb hb' (by omega) (by omega)).mono ?_; rintro e w' ⟨rfl, n, rfl⟩)
      go_ret
      exact ⟨by simp [fineK, h1], _, rfl⟩
  · have h1' : decide (0 ≤ k) = false := by simpa using h1
    go_enter Tryz.func153, Tryz.ntmps153
    go_wp2
    go_ret
    exact ⟨by unfold fineK; rw [h1']; rfl, 0, rfl⟩
theorem ofInt_i64 (a : Nat) (ha : a < 9223372036854775808) : (BitVec.ofInt 64 (a : Int)).toNat = a := by
  rw [BitVec.ofInt_natCast, BitVec.toNat_ofNat]; exact Nat.mod_eq_of_lt (by omega)
theorem i64_and_nat (a b : Nat) (ha : a < 9223372036854775808) (hb : b < 9223372036854775808) : bits .and .i64 (a : Int) (b : Int) = ((a &&& b : Nat) : Int) := by
  have hx : a &&& b < 2 ^ 63 := Nat.and_lt_two_pow _ (by omega)
  show IntKind.i64.wrap ((BitVec.ofInt 64 (a : Int) &&& BitVec.ofInt 64 (b : Int)).toNat : Int) = _
  rw [BitVec.toNat_and, ofInt_i64 a ha, ofInt_i64 b hb, IntKind.wrap_i64]
  omega
theorem and_mask (x : Int) (n : Nat) (h0 : 0 ≤ x) (h1 : x < 9223372036854775808) (hn : n ≤ 62) : bits .and .i64 x (2 ^ n - 1) = x % 2 ^ n := by
  obtain ⟨x, rfl⟩ := Int.eq_ofNat_of_zero_le h0
  have hp : 0 < 2 ^ n := Nat.pow_pos (by omega)
  have hp2 : 2 ^ n ≤ 2 ^ 62 := Nat.pow_le_pow_right (by omega) hn
  have e : ((2 : Int) ^ n - 1) = ((2 ^ n - 1 : Nat) : Int) := by rw [Int.natCast_sub (by omega)]; simp
  rw [e, i64_and_nat _ _ (by omega) (by omega), Nat.and_two_pow_sub_one_eq_mod]
  simp

set_option maxHeartbeats 400000 in
theorem limits_any (b k : Int) (w : World) (hb : 2 ≤ b) (hb' : b ≤ 8) (hk : 0 ≤ k) (hk' : k ≤ maxB b) :
    Calls Tryz.prog 105 #[.int .i64 b, .int .i64 k] w fun e w' => e = .returned (.tuple #[.int .i64 (loB b k), .int .i64 (hiB b k)]) ∧ ∃ n, w' = w.drewN n := by
  have hM := hB_two b hb
  have hH : (2 : Int) ^ (b.toNat - 1) = hB b := rfl
  obtain ⟨hH1, hH2⟩ := hB_bd b hb hb'
  have hmx := maxB_bd b hb hb'
  by_cases hlt : k < 2 * hB b
  · have hfin : loB b k = k ∧ hiB b k = k := by
      unfold hiB loB lJ lR; simp [hlt, pF, pS]
    have Hfin := Lib.hid hfin
    clear hfin
    generalize hB b = H at *
    go_enter Tryz.func105, Tryz.ntmps105
    go_wp2
    go_ret2
    refine ⟨?_, 0, rfl⟩
    rw [Hfin.out.1, Hfin.out.2]; rfl
  · have hand := and_mask (k - 2 * hB b) (b.toNat - 1) (by omega) (by omega) (by omega)
    rw [hH] at hand
    obtain ⟨q0, q1, r0, r1, e1, e2, l0, l1⟩ := lim_words b k hb hb' hk hk' (by omega)
    have l2 := (lim_bd b k hb hb' hk hk').2.1
    have hfin := And.intro e1 e2
    have g1 : 0 ≤ (k % hB b + hB b) * 2 ^ ((k - 2 * hB b) / hB b + 1).toNat ∧ (k % hB b + hB b) * 2 ^ ((k - 2 * hB b) / hB b + 1).toNat ≤ 1125899906842624 := by omega
    have g2 : 0 ≤ (k % hB b + hB b + 1) * 2 ^ ((k - 2 * hB b) / hB b + 1).toNat ∧ (k % hB b + hB b + 1) * 2 ^ ((k - 2 * hB b) / hB b + 1).toNat ≤ 1125899906842624 := by omega
    have Hfin := Lib.hid hfin
    clear hfin e1 e2 l0 l1 l2
    generalize hB b = H at *
    go_enter Tryz.func105, Tryz.ntmps105
    go_wp2
    go_quiet (fail)
    go_wp2
    go_quiet (fail)
    go_wp2
    go_ret2
    refine ⟨?_, _, World.drewN_drewN _ _ _⟩
    rw [Hfin.out.1, Hfin.out.2]; rfl

/-- a value -/
def fineV (v : Int) : Bool := decide (0 ≤ v) && decide (v ≤ 1125899906842623)


end Go.Proofs.YtepfmoaihhonlaaGreatDoor

/- Buckets of the reference: place, fineBits, low, high. -/
namespace Go.Proofs.YtepfmoaihhonlaaGreatDoor
open Go.RowKit
set_option maxHeartbeats 400000 in
theorem place_any (b v : Int) (w : World) (hb : 2 ≤ b) (hb' : b ≤ 8) (hv : 0 ≤ v) (hv' : v < 1125899906842624) :
    Calls Tryz.prog 120 #[.int .i64 b, .int .i64 v] w fun e w' => e = .returned (.int .i64 (bkt b v)) ∧ w = w' := by
  have hM := hB_two b hb
  have hH : (2 : Int) ^ (b.toNat - 1) = hB b := rfl
  obtain ⟨hH1, hH2⟩ := hB_bd b hb hb'
  have HX := Lib.hid (fun j : Nat => bkt_of b v j hb hb')
  generalize hB b = H at *
  go_enter Tryz.func120, Tryz.ntmps120
  go_wp2
  go_loop [5, 6, 7, 8] (fun s f n m => ∃ j : Nat, j ≤ 50 ∧ pF H j ≤ v ∧ s = .int .i64 (pS j) ∧ f = .int .i64 (pF H j) ∧ n = .int .i64 (pN H j) ∧ m = .int .i64 (pM H j))
    (fun s _ _ _ => (1125899906842624 - intOf s).toNat)
  case atStart => exact ⟨0, by omega, by simp [pF]; omega, rfl, rfl, rfl, rfl⟩
  case round =>
    obtain ⟨j, hj, hfv, rfl, rfl, rfl, rfl⟩ := hrel
    have hmul := p_mul H j
    have ht := pT_ge H j hH1
    have hf := pF_nonneg H j hH1
    have hn := pN_bd H j hH1 hH2 (by omega)
    have hm := pM_bd H j hH1 hH2
    have hs : 1 ≤ pS j := pow_one_le j
    have hTle := pT_le H j hH2
    by_cases hlt : pT H j ≤ v
    · go_wp2
      go_round
      case rel =>
        refine ⟨j + 1, ?_, ?_, ?_, ?_, ?_, ?_⟩
        · have := pS_j j (by omega); omega
        · rw [pF_succ]; omega
        · rw [pS_succ]
        · rw [pF_succ]; go_num
        · rw [pN_succ]
        · rw [pM_succ]
      case measure => simp [intOf]; omega
    · have d1 : 0 ≤ (v - pF H j) / pS j := Int.ediv_nonneg (by omega) (by omega)
      have d2 : (v - pF H j) / pS j ≤ v := Int.le_trans (Int.ediv_le_self _ (by omega)) (by omega)
      go_wp2
      go_ret
      refine ⟨?_, rfl⟩
      have hj50 : j < 50 := by
        rcases Nat.eq_zero_or_pos j with rfl | hp
        · omega
        · have : pS j ≤ pF H j := by
            have : 1 * 2 ^ j ≤ H * 2 ^ j := Int.mul_le_mul_of_nonneg_right (by omega) (by have := pow_one_le j; omega)
            simp only [pF]
            rw [if_neg (by omega)]
            unfold pS; omega
          exact pS_j j (by omega)
      have := HX.out j hj50 hfv (by omega)
      simp only [← this]; rfl

theorem fineBits_any (b : Int) (w : World) :
    Calls Tryz.prog 154 #[.int .i64 b] w fun e w' => e = .returned (.bool (fineB b)) ∧ w = w' := by
  by_cases h1 : 2 ≤ b
  · by_cases h2 : b ≤ 8
    · go_enter Tryz.func154, Tryz.ntmps154
      go_wp2
      go_ret
      exact ⟨by simp [fineB, h1, h2], rfl⟩
    · go_enter Tryz.func154, Tryz.ntmps154
      go_wp2
      go_ret
      exact ⟨by simp [fineB, h1, h2], rfl⟩
  · have h1' : decide (2 ≤ b) = false := by simpa using h1
    go_enter Tryz.func154, Tryz.ntmps154
    go_wp2
    go_ret
    exact ⟨by unfold fineB; rw [h1']; rfl, rfl⟩

/-- what the reference's 'low' returns -/
def lowR (b k : Int) : Int := if 0 ≤ k ∧ k ≤ maxB b then loB b k else -1

/-- 'low' at a stage: k is what is left -/
theorem low_loop_no (b k : Int) (w : World) (hk : k < 0) :
    Calls Tryz.prog 96 #[.int .i64 b, .int .i64 k] w fun e w' => e = .returned (.int .i64 (-1)) ∧ w = w' := by
  go_enter Tryz.func96, Tryz.ntmps96
  go_wp2
  go_ret
  exact ⟨rfl, rfl⟩

set_option maxHeartbeats 400000 in
theorem low_yes (b k : Int) (w : World) (hb : 2 ≤ b) (hb' : b ≤ 8) (hk : 0 ≤ k) (hk' : k ≤ 9223372036854775807) :
    Calls Tryz.prog 96 #[.int .i64 b, .int .i64 k] w fun e w' => e = .returned (.int .i64 (lowR b k)) ∧ w = w' := by
  have hM := hB_two b hb
  have hH : (2 : Int) ^ (b.toNat - 1) = hB b := rfl
  obtain ⟨hH1, hH2⟩ := hB_bd b hb hb'
  have HX := Lib.hid (fun j : Nat => lJ_uniq (hB b) k j)
  have HL := Lib.hid (lJ_lt b k hb hb' hk)
  have HB := Lib.hid (fun j : Nat => pF_big b j hb)
  have HT := Lib.hid (fun j : Nat => pT_max b j hb)
  have HE := Lib.hid (show loB b k = pF (hB b) (lJ (hB b) k) + lR (hB b) k * pS (lJ (hB b) k) from rfl)
  have HG := Lib.hid (fun j : Nat => lJ_ge (hB b) k j hH1 hk)
  have HT1 := Lib.hid (fun j : Nat => pT_last b j hb)
  have HT2 := Lib.hid (fun j : Nat => pT_inner b j hb)
  generalize hB b = H at *
  go_enter Tryz.func96, Tryz.ntmps96
  go_wp2
  go_loop [1, 5, 6, 7] (fun r s f m => ∃ j : Nat, (j : Int) ≤ 50 - b ∧ pN H j ≤ k ∧ r = .int .i64 (k - pN H j) ∧ s = .int .i64 (pS j) ∧ f = .int .i64 (pF H j) ∧ m = .int .i64 (pM H j))
    (fun r _ _ _ => (intOf r).toNat)
  case atStart => exact ⟨0, by omega, by simp [pN]; omega, by simp [pN], rfl, rfl, rfl⟩
  case round =>
    obtain ⟨j, hj, hnk, rfl, rfl, rfl, rfl⟩ := hrel
    have hmul := p_mul H j
    have ht := pT_ge H j hH1
    have hf := pF_nonneg H j hH1
    have hn := pN_bd H j hH1 hH2 (by omega)
    have hm := pM_bd H j hH1 hH2
    have hs : 1 ≤ pS j := pow_one_le j
    have htm := HT.out j hj
    by_cases hlt : pM H j ≤ k - pN H j
    · by_cases hj' : ((j + 1 : Nat) : Int) ≤ 50 - b
      · have hin := HT2.out j hj'
        rcases Nat.eq_zero_or_pos j with hj0 | hj0
        · have e0 : (pM H j == 2 * H) = true := by simp [pM, hj0]
          clear hj0
          go_wp2
          go_round
          case rel => exact ⟨j + 1, hj', by rw [pN_succ]; omega, by rw [pN_succ]; go_num, by rw [pS_succ], by rw [pF_succ]; go_num, by rw [pM_succ]⟩
          case measure => simp [intOf]; omega
        · have e0 : (pM H j == 2 * H) = false := by simp [pM]; omega
          have e1 : pM H j = H := by simp [pM]; omega
          have E1 := Lib.hid e1
          clear e1
          go_wp2
          go_round
          case rel => exact ⟨j + 1, hj', by rw [pN_succ]; omega, by rw [pN_succ]; go_num, by rw [pS_succ], by rw [pF_succ]; go_num, by rw [pM_succ, E1.out]⟩
          case measure => simp [intOf]; omega
      · have hla := HT1.out j hj (by omega)
        have hla1 : 1125899906842624 ≤ pT H j := by omega
        clear hla
        go_wp2
        go_ret
        refine ⟨?_, rfl⟩
        unfold lowR
        rw [if_neg]
        · rfl
        · rintro ⟨_, h2⟩
          have h3 := HL.out.1 h2
          have h4 := HG.out j (by rw [pN_succ]; omega)
          omega
    · have r0 : 0 ≤ (k - pN H j) * pS j := Int.mul_nonneg (by omega) (by omega)
      have r1 : (k - pN H j) * pS j + pF H j < pT H j := by
        have : (k - pN H j + 1) * pS j ≤ pM H j * pS j := Int.mul_le_mul_of_nonneg_right (by omega) (by omega)
        rw [Int.add_mul] at this; omega
      go_wp2
      go_ret
      obtain ⟨ej, er⟩ := HX.out j (k - pN H j) hH1 (by omega) (by omega) (by omega)
      refine ⟨?_, rfl⟩
      unfold lowR
      rw [if_pos ⟨hk, HL.out.2 (by omega)⟩, HE.out, ej, er]; rfl
theorem low_any (b k : Int) (w : World) (hb : 2 ≤ b) (hb' : b ≤ 8) (hk' : k ≤ 9223372036854775807) :
    Calls Tryz.prog 96 #[.int .i64 b, .int .i64 k] w fun e w' => e = .returned (.int .i64 (lowR b k)) ∧ w = w' := by
  by_cases hk : 0 ≤ k
  · exact low_yes b k w hb hb' hk hk'
  · have : lowR b k = -1 := by unfold lowR; rw [if_neg (by omega)]
    rw [this]; exact low_loop_no b k w (by omega)

theorem lowR_pos (b k : Int) (hb : 2 ≤ b) (hb' : b ≤ 8) (h0 : 0 ≤ k) (h1 : k ≤ maxB b) : lowR b k = loB b k ∧ 0 ≤ lowR b k ∧ lowR b k ≤ 1125899906842623 := by
  have := lim_bd b k hb hb' h0 h1
  unfold lowR; rw [if_pos ⟨h0, h1⟩]; omega
theorem lowR_neg (b k : Int) (h : ¬ (0 ≤ k ∧ k ≤ maxB b)) : lowR b k = -1 := by
  unfold lowR; rw [if_neg h]

set_option maxHeartbeats 400000 in
theorem high_any (b k : Int) (w : World) (hb : 2 ≤ b) (hb' : b ≤ 8) (hk : 0 ≤ k) (hk' : k ≤ maxB b) :
    Calls Tryz.prog 106 #[.int .i64 b, .int .i64 k] w fun e w' => e = .returned (.int .i64 (hiB b k)) ∧ w = w' := by
  have hmx := maxB_bd b hb hb'
  by_cases hlt : k + 1 ≤ maxB b
  · have h1 := lowR_pos b (k + 1) hb hb' (by omega) hlt
    have h2 := loB_next b k hb hb' hk
    have h3 := lim_bd b k hb hb' hk hk'
    have e : lowR b (k + 1) = hiB b k + 1 := by omega
    go_enter Tryz.func106, Tryz.ntmps106
    clear h1 h2
    go_wp2_with (go_at_call 96; refine (low_any _ _ _ hb hb' (by omega)).mono ?_; rintro e w' ⟨rfl, rfl⟩)
    go_ret
    exact ⟨by go_num, rfl⟩
  · have e := lowR_neg b (k + 1) (by omega)
    obtain rfl : k = maxB b := by omega
    have h2 := hiB_max b hb hb'
    go_enter Tryz.func106, Tryz.ntmps106
    go_wp2_with (go_at_call 96; refine (low_any _ _ _ hb hb' (by omega)).mono ?_; rintro e w' ⟨rfl, rfl⟩)
    go_ret
    exact ⟨by rw [h2]; rfl, rfl⟩

end Go.Proofs.YtepfmoaihhonlaaGreatDoor

/- Words for memory: frames, slices that read as lists, boxes. No program in sight. -/
namespace Go.Proofs.YtepfmoaihhonlaaGreatDoor
open Go Go.RowKit

/-- w' is w with new blocks, and with other contents in the blocks that 'may' names. -/
structure Fr (may : Nat → Prop) (w w' : World) : Prop where
  os : w'.os = w.os
  tape : w'.tape = w.tape
  output : w'.output = w.output
  size : w.heap.size ≤ w'.heap.size
  block : ∀ i, i < w.heap.size → ¬ may i → w'.heap[i]? = w.heap[i]?

section
variable {may may' : Nat → Prop} {w w' w1 w2 : World}
theorem Fr.refl (may : Nat → Prop) (w : World) : Fr may w w := ⟨rfl, rfl, rfl, Nat.le_refl _, fun _ _ _ => rfl⟩
theorem Fr.trans (h1 : Fr may w w1) (h2 : Fr may' w1 w2) (h : ∀ i, i < w.heap.size → may' i → may i) : Fr may w w2 :=
  ⟨h2.os.trans h1.os, h2.tape.trans h1.tape, h2.output.trans h1.output, Nat.le_trans h1.size h2.size, fun i hi hm =>
    (h2.block i (Nat.lt_of_lt_of_le hi h1.size) (fun hm' => hm (h i hi hm'))).trans (h1.block i hi hm)⟩
theorem Fr.mono (h : Fr may w w') (hm : ∀ i, i < w.heap.size → may i → may' i) : Fr may' w w' :=
  ⟨h.os, h.tape, h.output, h.size, fun i hi hn => h.block i hi (fun h' => hn (hm i hi h'))⟩
theorem Fr.of_below {B : Nat} (h : Below B w w') : Fr (B ≤ ·) w w' := ⟨h.os, h.tape, h.output, h.size, fun i _ hm => h.block i (by omega)⟩
theorem Fr.of_grown {row : Option Nat} (h : w.grownBy w' row) : Fr (fun i => some i = row) w w' := ⟨h.os, h.tape, h.output, h.size, fun i hi hm => h.block i hi hm⟩
theorem Fr.drew (h : Fr may w w') : Fr may w w'.drew := ⟨h.os, h.tape, h.output, h.size, h.block⟩
theorem Fr.drewN (h : Fr may w w') (n : Nat) : Fr may w (w'.drewN n) := ⟨h.os, h.tape, h.output, h.size, h.block⟩
theorem Fr.alloc (h : Fr may w w') (o : Obj) : Fr may w (w'.alloc o) :=
  ⟨h.os, h.tape, h.output, Nat.le_trans h.size (by simp), fun i hi hm => (Below.heap_alloc w' o i (Nat.lt_of_lt_of_le hi h.size)).trans (h.block i hi hm)⟩
theorem Fr.setCell (h : Fr may w w') {p : Addr} (hp : p.block < w.heap.size → may p.block) (u : Value) : Fr may w (w'.setCell p u) :=
  ⟨h.os, h.tape, h.output, by simpa [World.setCell] using h.size, fun i hi hm => (Below.heap_setCell w' p u i (by rintro rfl; exact hm (hp hi))).trans (h.block i hi hm)⟩
theorem Fr.below {B : Nat} (h : Fr may w w') (hB : B ≤ w.heap.size) (hm : ∀ i, i < B → ¬ may i) : Below B w w' :=
  ⟨h.os, h.tape, h.output, h.size, fun i hi => h.block i (by omega) (hm i hi)⟩
theorem Fr.grown {row : Option Nat} (h : Fr may w w') (hm : ∀ i, i < w.heap.size → may i → some i = row) : w.grownBy w' row :=
  ⟨h.os, h.tape, h.output, h.size, fun i hi hne => h.block i hi (fun h' => hne (hm i hi h'))⟩
theorem Fr.cell (h : Fr may w w') {p : Addr} (hp : p.block < w.heap.size) (hm : ¬ may p.block) : w'.cell? p = w.cell? p := World.cell?_of_block (h.block _ hp hm)
theorem below_drewN {B : Nat} {a w : World} (h : Below B a w) (n : Nat) : Below B a (w.drewN n) := ⟨h.os, h.tape, h.output, h.size, h.block⟩
end

/-- the slice (A, n) reads as the cells xs, k cells an element, in a block from L on, below B -/
def Rd (w : World) (L B k : Nat) (A : Option Addr) (n : Nat) (xs : List Value) : Prop :=
  xs.length = n * k ∧ (0 < n → ∃ b o, A = some ⟨b, o, none⟩ ∧ L ≤ b ∧ b < B ∧ ∀ j u, xs[j]? = some u → w.cell? ⟨b, o + j, none⟩ = some u)

section
variable {w w' : World} {L L' B B' k n : Nat} {A : Option Addr} {xs : List Value}
theorem Rd.nil : Rd w L B k A 0 [] := ⟨by simp, fun h => absurd h (by omega)⟩
theorem Rd.keep (h : Rd w L B k A n xs) (hk : ∀ p : Addr, L ≤ p.block → p.block < B → w'.cell? p = w.cell? p) : Rd w' L B k A n xs :=
  ⟨h.1, fun hn => by
    obtain ⟨b, o, e, hl, hb, hc⟩ := h.2 hn
    exact ⟨b, o, e, hl, hb, fun j u hu => (hk ⟨b, o + j, none⟩ hl hb).trans (hc j u hu)⟩⟩
theorem Rd.more (h : Rd w L B k A n xs) (hL : L' ≤ L) (hB : B ≤ B') : Rd w L' B' k A n xs :=
  ⟨h.1, fun hn => by
    obtain ⟨b, o, e, hl, hb, hc⟩ := h.2 hn
    exact ⟨b, o, e, by omega, by omega, hc⟩⟩
theorem Rd.below (h : Rd w L B k A n xs) (hb : Below B' w w') (hB : B ≤ B') : Rd w' L B k A n xs := h.keep fun _ _ hp => hb.cell (by omega)
theorem Rd.drewN (h : Rd w L B k A n xs) (m : Nat) : Rd (w.drewN m) L B k A n xs := h
theorem Rd.alloc (h : Rd w L B k A n xs) (hB : B ≤ w.heap.size) (o : Obj) : Rd (w.alloc o) L B k A n xs := h.keep fun p _ hp => World.cell?_alloc_lt w o p (by omega)
theorem Rd.fr {may : Nat → Prop} (h : Rd w L B k A n xs) (hf : Fr may w w') (hB : B ≤ w.heap.size) (hm : ∀ i, L ≤ i → i < B → ¬ may i) : Rd w' L B k A n xs :=
  h.keep fun p hl hp => hf.cell (by omega) (hm _ hl hp)
/-- the element at a place, one cell an element -/
theorem Rd.at1 {i : Nat} (h : Rd w L B 1 A n xs) (hi : i < n) : ∃ b o u, A = some ⟨b, o, none⟩ ∧ b < B ∧ xs[i]? = some u ∧ w.cell? ⟨b, o + i, none⟩ = some u := by
  obtain ⟨b, o, e, hl, hb, hc⟩ := h.2 (by omega)
  have hl : i < xs.length := by have := h.1; omega
  exact ⟨b, o, xs[i], e, hb, List.getElem?_eq_getElem hl, hc i _ (List.getElem?_eq_getElem hl)⟩
theorem Rd.of_own {base : Nat} {e : TypeId} {c : Nat} (h : w.ownsRow base e k (.slice A n c) n xs) : Rd w base w.heap.size k A n xs := by
  refine ⟨h.1, fun hn => ?_⟩
  rcases h.2 with ⟨hv, rfl⟩ | ⟨g, cap, cur, hv, hb, hh, hnc, _, hsz, htk⟩
  · omega
  · have hA : A = some ⟨g, 0, none⟩ := by injection hv
    have hlt : g < w.heap.size := by
      rcases Nat.lt_or_ge g w.heap.size with h' | h'
      · exact h'
      · rw [Array.getElem?_eq_none h'] at hh; cases hh
    refine ⟨g, 0, hA, hb, hlt, fun j u hu => ?_⟩
    rw [← htk] at hu
    rw [List.getElem?_take] at hu
    split at hu
    · simp [World.cell?, hh]; simpa using hu
    · cases hu
end

theorem ownsRow_fr {may : Nat → Prop} {w w' : World} {base : Nat} {e : TypeId} {k n : Nat} {v : Value} {xs : List Value} (h : w.ownsRow base e k v n xs) (hf : Fr may w w') (hm : ∀ i, some i = v.ownBlock → ¬ may i) : w'.ownsRow base e k v n xs := by
  refine ⟨h.1, ?_⟩
  rcases h.2 with h0 | ⟨g, cap, cur, hv, hb, hh, hr⟩
  · exact .inl h0
  · have hlt : g < w.heap.size := by
      rcases Nat.lt_or_ge g w.heap.size with h' | h'
      · exact h'
      · rw [Array.getElem?_eq_none h'] at hh; cases hh
    exact .inr ⟨g, cap, cur, hv, hb, (hf.block g hlt (hm g (by rw [hv]; rfl))).trans hh, hr⟩
theorem ownsRow_block {w : World} {base : Nat} {e : TypeId} {k n : Nat} {v : Value} {xs : List Value} (h : w.ownsRow base e k v n xs) {i : Nat} (hi : some i = v.ownBlock) : base ≤ i ∧ i < w.heap.size := by
  rcases h.2 with ⟨rfl, _⟩ | ⟨g, cap, cur, rfl, hb, hh, hr⟩
  · cases hi
  · cases hi
    refine ⟨hb, ?_⟩
    rcases Nat.lt_or_ge g w.heap.size with h' | h'
    · exact h'
    · rw [Array.getElem?_eq_none h'] at hh; cases hh
/-- a row with an element has an address -/
theorem ownsRow_some {w : World} {base : Nat} {e : TypeId} {k n : Nat} {v : Value} {xs : List Value} (h : w.ownsRow base e k v n xs) (hn : 0 < n) : ∃ g cap, v = .slice (some ⟨g, 0, none⟩) n cap ∧ base ≤ g ∧ g < w.heap.size ∧ n ≤ cap ∧ cap ≤ maxLen := by
  rcases h.2 with ⟨rfl, h0⟩ | ⟨g, cap, cur, hv, hb, hh, h1, h2, _⟩
  · omega
  · exact ⟨g, cap, hv, hb, (ownsRow_block h (i := g) (by rw [hv]; rfl)).2, h1, h2⟩
theorem ownsRow_shape {w : World} {base : Nat} {e : TypeId} {k n : Nat} {v : Value} {xs : List Value} (h : w.ownsRow base e k v n xs) : ∃ A cap, v = .slice A n cap ∧ n ≤ cap ∧ cap ≤ maxLen ∧ (A = none → n = 0 ∧ cap = 0) := by
  rcases h.2 with ⟨rfl, rfl⟩ | ⟨g, cap, cur, hv, hb, hh, h1, h2, _⟩
  · exact ⟨none, 0, rfl, Nat.le_refl _, Nat.zero_le _, fun _ => ⟨rfl, rfl⟩⟩
  · exact ⟨_, cap, hv, h1, h2, fun h => by cases h⟩

theorem alloc_at (w : World) (o : Obj) (i : Nat) (h : i = w.heap.size) : (w.alloc o).heap[i]? = some o := by
  subst h; exact heap_alloc_new w o

/-- integers as cells -/
def ints (zs : List Int) : List Value := zs.map (Value.int .i64)
theorem ints_length (zs : List Int) : (ints zs).length = zs.length := by simp [ints]
theorem ints_get {zs : List Int} {i : Nat} {u : Value} (h : (ints zs)[i]? = some u) : ∃ z, zs[i]? = some z ∧ u = .int .i64 z := by
  unfold ints at h; rw [List.getElem?_map] at h
  cases hz : zs[i]? with
  | none => rw [hz] at h; cases h
  | some z => rw [hz] at h; exact ⟨z, rfl, by simpa using h.symm⟩

/-- the block that 'setCells' writes, as a list -/
theorem setCells_block (g : Nat) (t : TypeId) (fz : Nat × Nat) : ∀ (vs : List Value) (o : Nat) (w : World) (cs : Array Value), w.heap[g]? = some (.cells cs t fz) → o + vs.length ≤ cs.size →
    ∃ cs' : Array Value, (w.setCells g o vs).heap[g]? = some (.cells cs' t fz) ∧ cs'.toList = cs.toList.take o ++ vs ++ cs.toList.drop (o + vs.length)
  | [], o, w, cs, h, _ => ⟨cs, h, by simp⟩
  | v :: vs, o, w, cs, h, hl => by
    simp only [List.length_cons] at hl
    have h1 : (w.setCell ⟨g, o, none⟩ v).heap[g]? = some (.cells (cs.setIfInBounds o v) t fz) := by
      simp [World.setCell, Array.getElem?_modify, h]
    obtain ⟨cs', h2, h3⟩ := setCells_block g t fz vs (o + 1) (w.setCell ⟨g, o, none⟩ v) (cs.setIfInBounds o v) h1 (by simp; omega)
    refine ⟨cs', h2, ?_⟩
    rw [h3]
    have ho : o < cs.toList.length := by simp; omega
    simp only [Array.toList_setIfInBounds, List.length_cons]
    rw [List.take_set, List.drop_set_of_lt (by omega), List.take_succ_eq_append_getElem (by simpa using ho)]
    rw [List.set_append_right _ _ (by simp; omega)]
    simp [Nat.min_eq_left (Nat.le_of_lt (by simpa using ho)), Nat.add_assoc, Nat.add_comm 1]
theorem cellsAt {w : World} {g : Nat} {cur : Array Value} {t : TypeId} (h : w.heap[g]? = some (.cells cur t (0, 0))) (j : Nat) : w.cell? ⟨g, j, none⟩ = cur[j]? := by
  simp [World.cell?, h]
theorem frozenAt {w : World} {g : Nat} {cur : Array Value} {t : TypeId} (h : w.heap[g]? = some (.cells cur t (0, 0))) (j : Nat) : w.frozen? ⟨g, j, none⟩ = false := by
  simp [World.frozen?, h]
theorem heap_lt {w : World} {g : Nat} {o : Obj} (h : w.heap[g]? = some o) : g < w.heap.size := by
  rcases Nat.lt_or_ge g w.heap.size with h' | h'
  · exact h'
  · rw [Array.getElem?_eq_none h'] at h; cases h
theorem fr_setCells {may : Nat → Prop} {w w' : World} (h : Fr may w w') (g : Nat) (hg : g < w.heap.size → may g) : ∀ (vs : List Value) (o : Nat), Fr may w (w'.setCells g o vs) := by
  intro vs
  induction vs generalizing w' with
  | nil => intro o; exact h
  | cons v vs ih => intro o; exact ih (h.setCell (p := ⟨g, o, none⟩) hg v) (o + 1)

end Go.Proofs.YtepfmoaihhonlaaGreatDoor
