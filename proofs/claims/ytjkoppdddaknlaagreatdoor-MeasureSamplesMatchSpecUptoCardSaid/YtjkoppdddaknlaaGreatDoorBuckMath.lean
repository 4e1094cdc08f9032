/- Plain arithmetic of buckets: no program in sight. -/
import Derived.Lib.BitFns
namespace Go.Proofs.YtjkoppdddaknlaaGreatDoor
open Go

theorem ilt_or_ge (a b : Int) : a < b ∨ b ≤ a := by omega
/-- half of 2^b -/
def hB (b : Int) : Int := 2 ^ (b.toNat - 1)
theorem hB_two (b : Int) (h : 2 ≤ b) : (2 : Int) ^ b.toNat = 2 * hB b := by
  unfold hB
  have : b.toNat = (b.toNat - 1) + 1 := by omega
  rw [this, Int.pow_succ]; simp; omega
theorem hB_bd (b : Int) (h : 2 ≤ b) (h' : b ≤ 8) : 2 ≤ hB b ∧ hB b ≤ 128 := by
  obtain ⟨n, rfl⟩ := Int.eq_ofNat_of_zero_le (show 0 ≤ b by omega)
  have : n = 2 ∨ n = 3 ∨ n = 4 ∨ n = 5 ∨ n = 6 ∨ n = 7 ∨ n = 8 := by omega
  rcases this with rfl | rfl | rfl | rfl | rfl | rfl | rfl <;> decide

def pS (j : Nat) : Int := 2 ^ j
def pF (H : Int) (j : Nat) : Int := if j = 0 then 0 else H * 2 ^ j
def pN (H : Int) (j : Nat) : Int := if j = 0 then 0 else 2 * H + (j - 1) * H
def pM (H : Int) (j : Nat) : Int := if j = 0 then 2 * H else H
def pT (H : Int) (j : Nat) : Int := 2 * H * 2 ^ j

theorem pow_one_le (j : Nat) : (1 : Int) ≤ 2 ^ j := by
  have := Int.pow_pos (n := (2 : Int)) (m := j) (by omega); omega
theorem p_mul (H : Int) (j : Nat) : pM H j * pS j = pT H j - pF H j := by
  unfold pM pS pT pF; split
  · subst_vars; simp
  · rw [show 2 * H * 2 ^ j = 2 * (H * 2 ^ j) by rw [Int.mul_assoc]]; omega
theorem pF_succ (H : Int) (j : Nat) : pF H (j + 1) = pT H j := by
  unfold pF pT; simp; rw [Int.pow_succ]; rw [← Int.mul_assoc, Int.mul_comm _ 2, ← Int.mul_assoc]
theorem pS_succ (j : Nat) : pS (j + 1) = 2 * pS j := by unfold pS; rw [Int.pow_succ]; omega
theorem pM_succ (H : Int) (j : Nat) : pM H (j + 1) = H := by unfold pM; simp
theorem pN_succ (H : Int) (j : Nat) : pN H (j + 1) = pN H j + pM H j := by
  unfold pN pM
  rcases j with _ | j
  · simp
  · simp; rw [Int.add_mul]; omega
theorem pT_ge (H : Int) (j : Nat) (h : 2 ≤ H) : pS j ≤ pT H j ∧ 4 ≤ pT H j := by
  have h0 := pow_one_le j
  have h1 : 4 * 2 ^ j ≤ 2 * H * 2 ^ j := Int.mul_le_mul_of_nonneg_right (by omega) (by omega)
  unfold pT pS; omega
theorem pF_nonneg (H : Int) (j : Nat) (h : 2 ≤ H) : 0 ≤ pF H j ∧ pF H j ≤ pT H j := by
  have h0 := pow_one_le j
  have := Int.mul_nonneg (a := H) (b := 2 ^ j) (by omega) (by omega)
  unfold pF pT; split
  · subst_vars; simp; omega
  · rw [show 2 * H * 2 ^ j = 2 * (H * 2 ^ j) by rw [Int.mul_assoc]]; omega
theorem pN_bd (H : Int) (j : Nat) (h : 2 ≤ H) (h' : H ≤ 128) (hj : j ≤ 60) : 0 ≤ pN H j ∧ pN H j ≤ 10000 := by
  unfold pN; split
  · omega
  · have h1 : (j - 1 : Int) * H ≤ 60 * 128 := Int.mul_le_mul (by omega) h' (by omega) (by omega)
    have h2 := Int.mul_nonneg (a := (j - 1 : Int)) (b := H) (by omega) (by omega)
    omega
theorem pM_bd (H : Int) (j : Nat) (h : 2 ≤ H) (h' : H ≤ 128) : 2 ≤ pM H j ∧ pM H j ≤ 256 := by unfold pM; split <;> omega
theorem pT_le (H : Int) (j : Nat) (h' : H ≤ 128) : pT H j ≤ 2 * pF H j + 256 := by
  unfold pT pF; split
  · subst_vars; simp; omega
  · rw [show 2 * H * 2 ^ j = 2 * (H * 2 ^ j) by rw [Int.mul_assoc]]; omega
theorem pS_j (j : Nat) (hv : pS j < 1125899906842624) : j < 50 := by
  rcases Nat.lt_or_ge j 50 with hj | hj
  · exact hj
  · exfalso
    have h2 : (2:Nat) ^ 50 ≤ 2 ^ j := Nat.pow_le_pow_right (by omega) hj
    have h3 : (pS j) = ((2 ^ j : Nat) : Int) := by unfold pS; simp
    omega

theorem bitLen_eq (x n : Nat) (h1 : 2 ^ n ≤ x) (h2 : x < 2 ^ (n + 1)) (hn : n < 64) : Lib.bitLen x = n + 1 := by
  have hx : x < 2 ^ 64 := Nat.lt_of_lt_of_le h2 (Nat.pow_le_pow_right (by omega) (by omega))
  rw [Lib.bitLen_shift n x h1 hx]
  have : x / 2 ^ n = 1 := by
    have hp : 0 < 2 ^ n := Nat.pow_pos (by omega)
    rw [Nat.pow_succ] at h2
    exact Nat.div_eq_of_lt_le (by omega) (by omega)
  rw [this]; rfl

/-- the bucket of a value -/
def bkt (b v : Int) : Int :=
  if v < 2 * hB b then v
  else 2 * hB b + ((Lib.bitLen v.toNat : Int) - b - 1) * hB b + v / 2 ^ (Lib.bitLen v.toNat - b.toNat) - hB b

theorem bkt_len (b v : Int) (j : Nat) (hb : 2 ≤ b) (hb' : b ≤ 8) (hj : 1 ≤ j) (hj' : j < 50) (h1 : pF (hB b) j ≤ v) (h2 : v < pT (hB b) j) :
    Lib.bitLen v.toNat = b.toNat + j := by
  have e1 : pF (hB b) j = ((2 ^ (b.toNat - 1 + j) : Nat) : Int) := by
    unfold pF hB; rw [if_neg (by omega), ← Int.pow_add]; simp
  have e2 : pT (hB b) j = ((2 ^ (b.toNat - 1 + j + 1) : Nat) : Int) := by
    unfold pT hB; rw [Int.mul_comm 2, Int.mul_assoc, Int.mul_comm 2, ← Int.mul_assoc, ← Int.pow_add]; simp [Nat.pow_succ]
  rw [e1] at h1; rw [e2] at h2
  rw [bitLen_eq v.toNat (b.toNat - 1 + j) (by omega) (by omega) (by omega)]; omega

theorem bkt_of (b v : Int) (j : Nat) (hb : 2 ≤ b) (hb' : b ≤ 8) (hj : j < 50) (h1 : pF (hB b) j ≤ v) (h2 : v < pT (hB b) j) :
    pN (hB b) j + (v - pF (hB b) j) / pS j = bkt b v := by
  have hH := hB_bd b hb hb'
  rcases j with _ | j
  · simp [pF, pN, pS, pT] at *
    unfold bkt; rw [if_pos h2]
  · have hl := bkt_len b v (j + 1) hb hb' (by omega) hj h1 h2
    unfold bkt
    have hge : 2 * hB b ≤ v := by
      have : hB b * 2 ≤ hB b * 2 ^ (j + 1) := by
        apply Int.mul_le_mul_of_nonneg_left _ (by omega)
        have := pow_one_le j
        rw [Int.pow_succ]; omega
      simp [pF] at h1; omega
    rw [if_neg (by omega), hl]
    have e : b.toNat + (j + 1) - b.toNat = j + 1 := by omega
    rw [e]
    simp only [pN, pF, pS]
    rw [if_neg (by omega), if_neg (by omega)]
    have hp := pow_one_le (j + 1)
    rw [show v - hB b * 2 ^ (j + 1) = v + (-(hB b)) * 2 ^ (j + 1) by rw [Int.neg_mul]; omega, Int.add_mul_ediv_right _ _ (by omega)]
    have e3 : ((b.toNat + (j + 1) : Nat) : Int) - b - 1 = ((j + 1 : Nat) : Int) - 1 := by omega
    rw [e3]; omega

/-- every value has its j -/
theorem bkt_j (b v : Int) (hb : 2 ≤ b) (hb' : b ≤ 8) (hv : 0 ≤ v) (hv' : v < 1125899906842624) :
    ∃ j : Nat, j < 50 ∧ pF (hB b) j ≤ v ∧ v < pT (hB b) j := by
  have hH := hB_bd b hb hb'
  have key : ∀ n : Nat, (∃ j : Nat, pF (hB b) j ≤ v ∧ v < pT (hB b) j) ∨ pT (hB b) n ≤ v := by
    intro n
    induction n with
    | zero => 
      rcases ilt_or_ge v (pT (hB b) 0) with h | h
      · left; exact ⟨0, by simp [pF]; omega, h⟩
      · right; exact h
    | succ n ih =>
      rcases ih with h | h
      · left; exact h
      · rcases ilt_or_ge v (pT (hB b) (n + 1)) with h' | h'
        · left; exact ⟨n + 1, by rw [pF_succ]; omega, h'⟩
        · right; exact h'
  rcases key 50 with ⟨j, h1, h2⟩ | h
  · refine ⟨j, ?_, h1, h2⟩
    rcases Nat.eq_zero_or_pos j with rfl | hp
    · omega
    · refine pS_j j ?_
      have : 1 * 2 ^ j ≤ hB b * 2 ^ j := Int.mul_le_mul_of_nonneg_right (by omega) (by have := pow_one_le j; omega)
      simp only [pF] at h1
      rw [if_neg (by omega)] at h1
      unfold pS; omega
  · exfalso
    have h3 := (pT_ge (hB b) 50 (by omega)).1
    simp [pS] at h3
    omega
/-- what 'bucket' computes, in its own words -/
theorem bkt_words (b v : Int) (hb : 2 ≤ b) (hb' : b ≤ 8) (hv : v < 1125899906842624) (hlt : 2 * hB b ≤ v) :
    b + 1 ≤ (Lib.bitLen v.toNat : Int) ∧ (Lib.bitLen v.toNat : Int) ≤ 60 ∧ 0 ≤ v / 2 ^ ((Lib.bitLen v.toNat : Int) - b).toNat ∧ v / 2 ^ ((Lib.bitLen v.toNat : Int) - b).toNat < 256 ∧
    0 ≤ ((Lib.bitLen v.toNat : Int) - b - 1) * hB b ∧ ((Lib.bitLen v.toNat : Int) - b - 1) * hB b ≤ 10000 ∧
    bkt b v = 2 * hB b + ((Lib.bitLen v.toNat : Int) - b - 1) * hB b + v / 2 ^ ((Lib.bitLen v.toNat : Int) - b).toNat - hB b := by
  have hH := hB_bd b hb hb'
  obtain ⟨j, hj, h1, h2⟩ := bkt_j b v hb hb' (by omega) hv
  have hj1 : 1 ≤ j := by
    rcases Nat.eq_zero_or_pos j with rfl | hp
    · simp [pT] at h2; omega
    · omega
  have hl := bkt_len b v j hb hb' hj1 hj h1 h2
  have e1 : (Lib.bitLen v.toNat : Int) - b = j := by omega
  have e2 : ((Lib.bitLen v.toNat : Int) - b).toNat = j := by omega
  have e3 : Lib.bitLen v.toNat - b.toNat = j := by omega
  have hp := pow_one_le j
  rw [e2, e1]
  have hm1 := Int.mul_nonneg (a := (j : Int) - 1) (b := hB b) (by omega) (by omega)
  have hm2 : ((j : Int) - 1) * hB b ≤ 50 * 128 := Int.mul_le_mul (by omega) hH.2 (by omega) (by omega)
  refine ⟨by omega, by omega, Int.ediv_nonneg (by omega) (by omega), ?_, by omega, by omega, ?_⟩
  · rw [Int.ediv_lt_iff_lt_mul (by omega)]
    have : 2 * hB b * 2 ^ j ≤ 256 * 2 ^ j := Int.mul_le_mul_of_nonneg_right (by omega) (by omega)
    unfold pT at h2; omega
  · unfold bkt; rw [if_neg (by omega), e3]
    have : (Lib.bitLen v.toNat : Int) - b - 1 = (j : Int) - 1 := by omega
    rw [this]
/-- the greatest bucket -/
def maxB (b : Int) : Int := 2 * hB b + (50 - b) * hB b - 1
theorem maxB_bd (b : Int) (hb : 2 ≤ b) (hb' : b ≤ 8) : 0 ≤ maxB b ∧ maxB b ≤ 6000 := by
  obtain ⟨n, rfl⟩ := Int.eq_ofNat_of_zero_le (show 0 ≤ b by omega)
  have : n = 2 ∨ n = 3 ∨ n = 4 ∨ n = 5 ∨ n = 6 ∨ n = 7 ∨ n = 8 := by omega
  rcases this with rfl | rfl | rfl | rfl | rfl | rfl | rfl <;> decide +kernel

/-- the stage and the rest of a bucket -/
def lJ (H k : Int) : Nat := if k < 2 * H then 0 else ((k - 2 * H) / H + 1).toNat
def lR (H k : Int) : Int := if k < 2 * H then k else (k - 2 * H) % H
def loB (b k : Int) : Int := pF (hB b) (lJ (hB b) k) + lR (hB b) k * pS (lJ (hB b) k)
def hiB (b k : Int) : Int := loB b k + pS (lJ (hB b) k) - 1

/-- what 'lJ', 'lR' are -/
theorem lJR (H k : Int) (hH : 2 ≤ H) (hk : 0 ≤ k) : k = pN H (lJ H k) + lR H k ∧ 0 ≤ lR H k ∧ lR H k < pM H (lJ H k) := by
  unfold lJ lR
  by_cases h : k < 2 * H
  · rw [if_pos h, if_pos h]; simp [pN, pM]; omega
  · rw [if_neg h, if_neg h]
    have h0 : 0 ≤ (k - 2 * H) / H := Int.ediv_nonneg (by omega) (by omega)
    have h1 := Int.emod_nonneg (k - 2 * H) (show H ≠ 0 by omega)
    have h2 := Int.emod_lt_of_pos (k - 2 * H) (show 0 < H by omega)
    have h3 := Int.mul_ediv_add_emod (k - 2 * H) H
    simp only [pN, pM]
    rw [if_neg (by omega), if_neg (by omega)]
    have e : (((k - 2 * H) / H + 1).toNat : Int) - 1 = (k - 2 * H) / H := by omega
    rw [e, Int.mul_comm ((k - 2 * H) / H)]
    omega
theorem pN_mono (H : Int) (i j : Nat) (hH : 2 ≤ H) (h : i < j) : pN H i + pM H i ≤ pN H j := by
  induction j with
  | zero => omega
  | succ j ih =>
    rw [pN_succ]
    rcases Nat.lt_or_ge i j with h' | h'
    · have := ih h'
      have : 0 ≤ pM H j := by unfold pM; split <;> omega
      omega
    · have : i = j := by omega
      subst this; omega
theorem lJ_uniq (H k : Int) (j : Nat) (r : Int) (hH : 2 ≤ H) (e : k = pN H j + r) (h0 : 0 ≤ r) (h1 : r < pM H j) : lJ H k = j ∧ lR H k = r := by
  have hk : 0 ≤ k := by
    have : 0 ≤ pN H j := by
      rcases j with _ | j
      · simp [pN]
      · have := pN_mono H 0 (j + 1) hH (by omega)
        simp [pN, pM] at this ⊢; omega
    omega
  obtain ⟨e', h0', h1'⟩ := lJR H k hH hk
  have : lJ H k = j := by
    rcases Nat.lt_trichotomy (lJ H k) j with h | h | h
    · have := pN_mono H _ _ hH h; omega
    · exact h
    · have := pN_mono H _ _ hH h; omega
  refine ⟨this, ?_⟩
  rw [this] at e'; omega
/-- a bucket is one of a value just if it's at most the greatest -/
theorem lJ_lt (b k : Int) (hb : 2 ≤ b) (hb' : b ≤ 8) (hk : 0 ≤ k) : k ≤ maxB b ↔ (lJ (hB b) k : Int) ≤ 50 - b := by
  have hH := hB_bd b hb hb'
  obtain ⟨e, h0, h1⟩ := lJR (hB b) k hH.1 hk
  have hm : maxB b + 1 = pN (hB b) (51 - b).toNat := by
    unfold maxB pN
    rw [if_neg (by omega)]
    have : ((51 - b).toNat : Int) - 1 = 50 - b := by omega
    rw [this]; omega
  constructor
  · intro h
    rcases Nat.lt_or_ge (lJ (hB b) k) (51 - b).toNat with h' | h'
    · omega
    · exfalso
      rcases Nat.lt_or_ge (51 - b).toNat (lJ (hB b) k) with h'' | h''
      · have := pN_mono (hB b) _ _ hH.1 h''
        have := pM_bd (hB b) (51 - b).toNat hH.1 hH.2
        omega
      · have : lJ (hB b) k = (51 - b).toNat := by omega
        rw [this] at e; omega
  · intro h
    have := pN_mono (hB b) (lJ (hB b) k) (51 - b).toNat hH.1 (by omega)
    omega
theorem pT_top (b : Int) (j : Nat) (hb : 2 ≤ b) : pT (hB b) j = 2 ^ (b.toNat + j) := by
  unfold pT; rw [← hB_two b hb, ← Int.pow_add]
theorem pF_big (b : Int) (j : Nat) (hb : 2 ≤ b) (hj : 1 ≤ j) (h : 50 - b < (j : Int)) : 1125899906842624 ≤ pF (hB b) j := by
  obtain ⟨i, rfl⟩ : ∃ i, j = i + 1 := ⟨j - 1, by omega⟩
  rw [pF_succ, pT_top b i hb]
  have : (2 : Nat) ^ 50 ≤ 2 ^ (b.toNat + i) := Nat.pow_le_pow_right (by omega) (by omega)
  have e : (2 : Int) ^ (b.toNat + i) = ((2 ^ (b.toNat + i) : Nat) : Int) := by simp
  rw [e]; omega
/-- a value lies within the limits of its bucket -/
theorem bkt_within (b v : Int) (hb : 2 ≤ b) (hb' : b ≤ 8) (hv : 0 ≤ v) (hv' : v < 1125899906842624) :
    0 ≤ bkt b v ∧ bkt b v ≤ maxB b ∧ loB b (bkt b v) ≤ v ∧ v ≤ hiB b (bkt b v) := by
  have hH := hB_bd b hb hb'
  obtain ⟨j, hj, h1, h2⟩ := bkt_j b v hb hb' hv hv'
  have e := bkt_of b v j hb hb' hj h1 h2
  have hs := pow_one_le j
  have hs' : (0 : Int) < pS j := by unfold pS; omega
  have hm := p_mul (hB b) j
  have r0 : 0 ≤ (v - pF (hB b) j) / pS j := Int.ediv_nonneg (by omega) (by omega)
  have r1 : (v - pF (hB b) j) / pS j < pM (hB b) j := by
    rw [Int.ediv_lt_iff_lt_mul hs', hm]; omega
  obtain ⟨ej, er⟩ := lJ_uniq (hB b) (bkt b v) j _ hH.1 e.symm r0 r1
  have hn := pN_bd (hB b) j hH.1 hH.2 (by omega)
  have hk : 0 ≤ bkt b v := by omega
  have hdm := Int.mul_ediv_add_emod (v - pF (hB b) j) (pS j)
  have hm0 := Int.emod_nonneg (v - pF (hB b) j) (show pS j ≠ 0 by omega)
  have hm1 := Int.emod_lt_of_pos (v - pF (hB b) j) hs'
  rw [Int.mul_comm] at hdm
  refine ⟨hk, (lJ_lt b _ hb hb' hk).2 ?_, ?_, ?_⟩
  · rw [ej]
    rcases Nat.eq_zero_or_pos j with rfl | hp
    · omega
    · rcases ilt_or_ge (50 - b) (j : Int) with h | h
      · have := pF_big b j hb hp h; omega
      · exact h
  · unfold loB; rw [ej, er]; omega
  · unfold hiB loB; rw [ej, er]; omega
end Go.Proofs.YtjkoppdddaknlaaGreatDoor
