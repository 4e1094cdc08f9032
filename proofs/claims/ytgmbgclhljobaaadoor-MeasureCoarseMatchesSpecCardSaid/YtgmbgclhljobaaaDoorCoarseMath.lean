/- Fewer bits: the buckets of the finer scale lie each within one of the coarser. -/
import Derived.Test.YtgmbgclhljobaaaDoorBuckMath
namespace Go.Proofs.YtgmbgclhljobaaaDoor
open Go

theorem hB_mul (b d : Int) (hd : 2 ≤ d) (hdb : d ≤ b) : hB b = hB d * 2 ^ (b.toNat - d.toNat) := by
  unfold hB
  rw [← Int.pow_add]
  congr 1; omega
theorem pF_fine (b d : Int) (j : Nat) (hd : 2 ≤ d) (hdb : d ≤ b) (hj : 1 ≤ j) : pF (hB b) j = pF (hB d) (j + (b.toNat - d.toNat)) := by
  unfold pF
  rw [if_neg (by omega), if_neg (by omega), hB_mul b d hd hdb, Nat.add_comm j, Int.pow_add, Int.mul_assoc]
theorem pT_fine (b d : Int) (j : Nat) (hd : 2 ≤ d) (hdb : d ≤ b) : pT (hB b) j = pT (hB d) (j + (b.toNat - d.toNat)) := by
  rw [pT_top b j (by omega), pT_top d _ hd]
  congr 1; omega
theorem div_stage (r s : Int) (j e : Nat) (hs : 0 ≤ s) (hs' : s < 2 ^ j) : (r * 2 ^ j + s) / 2 ^ (j + e) = r / 2 ^ e := by
  have hp := pow_one_le j
  rw [Int.pow_add, ← Int.ediv_ediv_of_nonneg (by omega), Int.add_comm, Int.add_mul_ediv_right _ _ (by omega), Int.ediv_eq_zero_of_lt hs hs', Int.zero_add]
/-- all values of a bucket have one bucket on the coarser scale -/
theorem bkt_coarse (b d k v : Int) (hb' : b ≤ 8) (hd : 2 ≤ d) (hdb : d ≤ b) (hk : 0 ≤ k) (hk' : k ≤ maxB b) (h1 : loB b k ≤ v) (h2 : v ≤ hiB b k) : bkt d v = bkt d (loB b k) := by
  have hb : 2 ≤ b := by omega
  have hH := hB_bd b hb hb'
  obtain ⟨l1, l2, l3⟩ := loB_bd b k hb hb' hk
  obtain ⟨e, r0, r1⟩ := lJR (hB b) k hH.1 hk
  have hj := (lJ_lt b k hb hb' hk).1 hk'
  rcases Nat.eq_zero_or_pos (lJ (hB b) k) with h0 | hp
  · have : hiB b k = loB b k := by unfold hiB; rw [h0]; simp [pS]
    have : v = loB b k := by omega
    rw [this]
  · have eF := pF_fine b d (lJ (hB b) k) hd hdb hp
    have eT := pT_fine b d (lJ (hB b) k) hd hdb
    have hj2 : lJ (hB b) k + (b.toNat - d.toNat) < 50 := by omega
    rw [← bkt_of d v (lJ (hB b) k + (b.toNat - d.toNat)) hd (by omega) hj2 (by omega) (by omega), ← bkt_of d (loB b k) (lJ (hB b) k + (b.toNat - d.toNat)) hd (by omega) hj2 (by omega) (by omega)]
    rw [← eF]
    have s0 : loB b k - pF (hB b) (lJ (hB b) k) = lR (hB b) k * 2 ^ (lJ (hB b) k) + 0 := by unfold loB pS; omega
    obtain ⟨s, hs⟩ : ∃ s, s = v - loB b k := ⟨_, rfl⟩
    have s1 : v - pF (hB b) (lJ (hB b) k) = lR (hB b) k * 2 ^ (lJ (hB b) k) + s := by omega
    have hs' : s < 2 ^ (lJ (hB b) k) := by unfold hiB pS at h2; omega
    have hp1 := pow_one_le (lJ (hB b) k)
    rw [s0, s1]
    unfold pS
    rw [div_stage _ _ _ _ (by omega) hs', div_stage _ _ _ _ (by omega) (by omega)]
/-- the bucket of a value, on the coarser scale -/
theorem bkt_bkt (b d v : Int) (hb' : b ≤ 8) (hd : 2 ≤ d) (hdb : d ≤ b) (hv : 0 ≤ v) (hv' : v < 1125899906842624) : bkt d (loB b (bkt b v)) = bkt d v := by
  obtain ⟨h1, h2, h3, h4⟩ := bkt_within b v (by omega) hb' hv hv'
  exact (bkt_coarse b d (bkt b v) v hb' hd hdb h1 h2 h3 h4).symm
theorem bkt_hi (b d k : Int) (hb' : b ≤ 8) (hd : 2 ≤ d) (hdb : d ≤ b) (hk : 0 ≤ k) (hk' : k ≤ maxB b) : bkt d (hiB b k) = bkt d (loB b k) :=
  bkt_coarse b d k (hiB b k) hb' hd hdb hk hk' (loB_bd b k (by omega) hb' hk).2.1 (Int.le_refl _)
end Go.Proofs.YtgmbgclhljobaaaDoor
