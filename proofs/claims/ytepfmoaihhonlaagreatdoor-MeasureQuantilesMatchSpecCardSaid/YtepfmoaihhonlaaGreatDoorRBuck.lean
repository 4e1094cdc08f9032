/- Buckets of the reference: place, fineBits, low, high. -/
import Derived.Test.YtepfmoaihhonlaaGreatDoorG2
namespace Go.Proofs.YtepfmoaihhonlaaGreatDoor
open Go.RowKit
set_option maxHeartbeats 400000 in
theorem place_any (b v : Int) (w : World) (hb : 2 ≤ b) (hb' : b ≤ 8) (hv : 0 ≤ v) (hv' : v < 1125899906842624) :
    Calls Tryz.prog 120 #[.int .i64 b, .int .i64 v] w fun e w' => e = .returned (.int .i64 (bkt b v)) ∧ w = w' := by
  have hM := hB_two b hb
  have hH : (2 : Int) ^ (b.toNat - 1) = hB b := rfl
  obtain ⟨hH1, hH2⟩ := hB_bd b hb hb'
  have HX := Lib.hid (fun j : Nat => bkt_of b v j hb hb')
  generalize hB b = H at *
  go_enter Tryz.func120, Tryz.ntmps120
  go_wp2
  go_loop [5, 6, 7, 8] (fun s f n m => ∃ j : Nat, j ≤ 50 ∧ pF H j ≤ v ∧ s = .int .i64 (pS j) ∧ f = .int .i64 (pF H j) ∧ n = .int .i64 (pN H j) ∧ m = .int .i64 (pM H j))
    (fun s _ _ _ => (1125899906842624 - intOf s).toNat)
  case atStart => exact ⟨0, by omega, by simp [pF]; omega, rfl, rfl, rfl, rfl⟩
  case round =>
    obtain ⟨j, hj, hfv, rfl, rfl, rfl, rfl⟩ := hrel
    have hmul := p_mul H j
    have ht := pT_ge H j hH1
    have hf := pF_nonneg H j hH1
    have hn := pN_bd H j hH1 hH2 (by omega)
    have hm := pM_bd H j hH1 hH2
    have hs : 1 ≤ pS j := pow_one_le j
    have hTle := pT_le H j hH2
    by_cases hlt : pT H j ≤ v
    · go_wp2
      go_round
      case rel =>
        refine ⟨j + 1, ?_, ?_, ?_, ?_, ?_, ?_⟩
        · have := pS_j j (by omega); omega
        · rw [pF_succ]; omega
        · rw [pS_succ]
        · rw [pF_succ]; go_num
        · rw [pN_succ]
        · rw [pM_succ]
      case measure => simp [intOf]; omega
    · have d1 : 0 ≤ (v - pF H j) / pS j := Int.ediv_nonneg (by omega) (by omega)
      have d2 : (v - pF H j) / pS j ≤ v := Int.le_trans (Int.ediv_le_self _ (by omega)) (by omega)
      go_wp2
      go_ret
      refine ⟨?_, rfl⟩
      have hj50 : j < 50 := by
        rcases Nat.eq_zero_or_pos j with rfl | hp
        · omega
        · have : pS j ≤ pF H j := by
            have : 1 * 2 ^ j ≤ H * 2 ^ j := Int.mul_le_mul_of_nonneg_right (by omega) (by have := pow_one_le j; omega)
            simp only [pF]
            rw [if_neg (by omega)]
            unfold pS; omega
          exact pS_j j (by omega)
      have := HX.out j hj50 hfv (by omega)
      simp only [← this]; rfl

theorem fineBits_any (b : Int) (w : World) :
    Calls Tryz.prog 154 #[.int .i64 b] w fun e w' => e = .returned (.bool (fineB b)) ∧ w = w' := by
  by_cases h1 : 2 ≤ b
  · by_cases h2 : b ≤ 8
    · go_enter Tryz.func154, Tryz.ntmps154
      go_wp2
      go_ret
      exact ⟨by simp [fineB, h1, h2], rfl⟩
    · go_enter Tryz.func154, Tryz.ntmps154
      go_wp2
      go_ret
      exact ⟨by simp [fineB, h1, h2], rfl⟩
  · have h1' : decide (2 ≤ b) = false := by simpa using h1
    go_enter Tryz.func154, Tryz.ntmps154
    go_wp2
    go_ret
    exact ⟨by unfold fineB; rw [h1']; rfl, rfl⟩

/-- what the reference's 'low' returns -/
def lowR (b k : Int) : Int := if 0 ≤ k ∧ k ≤ maxB b then loB b k else -1

/-- 'low' at a stage: k is what is left -/
theorem low_loop_no (b k : Int) (w : World) (hk : k < 0) :
    Calls Tryz.prog 96 #[.int .i64 b, .int .i64 k] w fun e w' => e = .returned (.int .i64 (-1)) ∧ w = w' := by
  go_enter Tryz.func96, Tryz.ntmps96
  go_wp2
  go_ret
  exact ⟨rfl, rfl⟩

set_option maxHeartbeats 400000 in
theorem low_yes (b k : Int) (w : World) (hb : 2 ≤ b) (hb' : b ≤ 8) (hk : 0 ≤ k) (hk' : k ≤ 9223372036854775807) :
    Calls Tryz.prog 96 #[.int .i64 b, .int .i64 k] w fun e w' => e = .returned (.int .i64 (lowR b k)) ∧ w = w' := by
  have hM := hB_two b hb
  have hH : (2 : Int) ^ (b.toNat - 1) = hB b := rfl
  obtain ⟨hH1, hH2⟩ := hB_bd b hb hb'
  have HX := Lib.hid (fun j : Nat => lJ_uniq (hB b) k j)
  have HL := Lib.hid (lJ_lt b k hb hb' hk)
  have HB := Lib.hid (fun j : Nat => pF_big b j hb)
  have HT := Lib.hid (fun j : Nat => pT_max b j hb)
  have HE := Lib.hid (show loB b k = pF (hB b) (lJ (hB b) k) + lR (hB b) k * pS (lJ (hB b) k) from rfl)
  have HG := Lib.hid (fun j : Nat => lJ_ge (hB b) k j hH1 hk)
  have HT1 := Lib.hid (fun j : Nat => pT_last b j hb)
  have HT2 := Lib.hid (fun j : Nat => pT_inner b j hb)
  generalize hB b = H at *
  go_enter Tryz.func96, Tryz.ntmps96
  go_wp2
  go_loop [1, 5, 6, 7] (fun r s f m => ∃ j : Nat, (j : Int) ≤ 50 - b ∧ pN H j ≤ k ∧ r = .int .i64 (k - pN H j) ∧ s = .int .i64 (pS j) ∧ f = .int .i64 (pF H j) ∧ m = .int .i64 (pM H j))
    (fun r _ _ _ => (intOf r).toNat)
  case atStart => exact ⟨0, by omega, by simp [pN]; omega, by simp [pN], rfl, rfl, rfl⟩
  case round =>
    obtain ⟨j, hj, hnk, rfl, rfl, rfl, rfl⟩ := hrel
    have hmul := p_mul H j
    have ht := pT_ge H j hH1
    have hf := pF_nonneg H j hH1
    have hn := pN_bd H j hH1 hH2 (by omega)
    have hm := pM_bd H j hH1 hH2
    have hs : 1 ≤ pS j := pow_one_le j
    have htm := HT.out j hj
    by_cases hlt : pM H j ≤ k - pN H j
    · by_cases hj' : ((j + 1 : Nat) : Int) ≤ 50 - b
      · have hin := HT2.out j hj'
        rcases Nat.eq_zero_or_pos j with hj0 | hj0
        · have e0 : (pM H j == 2 * H) = true := by simp [pM, hj0]
          clear hj0
          go_wp2
          go_round
          case rel => exact ⟨j + 1, hj', by rw [pN_succ]; omega, by rw [pN_succ]; go_num, by rw [pS_succ], by rw [pF_succ]; go_num, by rw [pM_succ]⟩
          case measure => simp [intOf]; omega
        · have e0 : (pM H j == 2 * H) = false := by simp [pM]; omega
          have e1 : pM H j = H := by simp [pM]; omega
          have E1 := Lib.hid e1
          clear e1
          go_wp2
          go_round
          case rel => exact ⟨j + 1, hj', by rw [pN_succ]; omega, by rw [pN_succ]; go_num, by rw [pS_succ], by rw [pF_succ]; go_num, by rw [pM_succ, E1.out]⟩
          case measure => simp [intOf]; omega
      · have hla := HT1.out j hj (by omega)
        have hla1 : 1125899906842624 ≤ pT H j := by omega
        clear hla
        go_wp2
        go_ret
        refine ⟨?_, rfl⟩
        unfold lowR
        rw [if_neg]
        · rfl
        · rintro ⟨_, h2⟩
          have h3 := HL.out.1 h2
          have h4 := HG.out j (by rw [pN_succ]; omega)
          omega
    · have r0 : 0 ≤ (k - pN H j) * pS j := Int.mul_nonneg (by omega) (by omega)
      have r1 : (k - pN H j) * pS j + pF H j < pT H j := by
        have : (k - pN H j + 1) * pS j ≤ pM H j * pS j := Int.mul_le_mul_of_nonneg_right (by omega) (by omega)
        rw [Int.add_mul] at this; omega
      go_wp2
      go_ret
      obtain ⟨ej, er⟩ := HX.out j (k - pN H j) hH1 (by omega) (by omega) (by omega)
      refine ⟨?_, rfl⟩
      unfold lowR
      rw [if_pos ⟨hk, HL.out.2 (by omega)⟩, HE.out, ej, er]; rfl
theorem low_any (b k : Int) (w : World) (hb : 2 ≤ b) (hb' : b ≤ 8) (hk' : k ≤ 9223372036854775807) :
    Calls Tryz.prog 96 #[.int .i64 b, .int .i64 k] w fun e w' => e = .returned (.int .i64 (lowR b k)) ∧ w = w' := by
  by_cases hk : 0 ≤ k
  · exact low_yes b k w hb hb' hk hk'
  · have : lowR b k = -1 := by unfold lowR; rw [if_neg (by omega)]
    rw [this]; exact low_loop_no b k w (by omega)

theorem lowR_pos (b k : Int) (hb : 2 ≤ b) (hb' : b ≤ 8) (h0 : 0 ≤ k) (h1 : k ≤ maxB b) : lowR b k = loB b k ∧ 0 ≤ lowR b k ∧ lowR b k ≤ 1125899906842623 := by
  have := lim_bd b k hb hb' h0 h1
  unfold lowR; rw [if_pos ⟨h0, h1⟩]; omega
theorem lowR_neg (b k : Int) (h : ¬ (0 ≤ k ∧ k ≤ maxB b)) : lowR b k = -1 := by
  unfold lowR; rw [if_neg h]

set_option maxHeartbeats 400000 in
theorem high_any (b k : Int) (w : World) (hb : 2 ≤ b) (hb' : b ≤ 8) (hk : 0 ≤ k) (hk' : k ≤ maxB b) :
    Calls Tryz.prog 106 #[.int .i64 b, .int .i64 k] w fun e w' => e = .returned (.int .i64 (hiB b k)) ∧ w = w' := by
  have hmx := maxB_bd b hb hb'
  by_cases hlt : k + 1 ≤ maxB b
  · have h1 := lowR_pos b (k + 1) hb hb' (by omega) hlt
    have h2 := loB_next b k hb hb' hk
    have h3 := lim_bd b k hb hb' hk hk'
    have e : lowR b (k + 1) = hiB b k + 1 := by omega
    go_enter Tryz.func106, Tryz.ntmps106
    clear h1 h2
    go_wp2_with (go_at_call 96; refine (low_any _ _ _ hb hb' (by omega)).mono ?_; rintro e w' ⟨rfl, rfl⟩)
    go_ret
    exact ⟨by go_num, rfl⟩
  · have e := lowR_neg b (k + 1) (by omega)
    obtain rfl : k = maxB b := by omega
    have h2 := hiB_max b hb hb'
    go_enter Tryz.func106, Tryz.ntmps106
    go_wp2_with (go_at_call 96; refine (low_any _ _ _ hb hb' (by omega)).mono ?_; rintro e w' ⟨rfl, rfl⟩)
    go_ret
    exact ⟨by rw [h2]; rfl, rfl⟩

end Go.Proofs.YtepfmoaihhonlaaGreatDoor
