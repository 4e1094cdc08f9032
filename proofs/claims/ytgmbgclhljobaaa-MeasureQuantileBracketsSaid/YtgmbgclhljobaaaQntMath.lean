/- Ranks among the values of a histogram, and the widths of buckets. No program in sight. -/
import Derived.Test.YtgmbgclhljobaaaTellMath
namespace Go.Proofs.Ytgmbgclhljobaaa
open Go Go.RowKit Go.Proofs Go.Maps

theorem hiB_lt (b : Int) (hb : 2 ≤ b) (hb' : b ≤ 8) (k : Int) (hk : 0 ≤ k) (d : Nat) : hiB b k < loB b (k + d + 1) := by
  induction d with
  | zero =>
    have := loB_next b k hb hb' hk
    simp only [Int.natCast_zero, Int.add_zero] at *
    omega
  | succ d ih =>
    have h1 := loB_next b (k + d + 1) hb hb' (by omega)
    have h2 := loB_bd b (k + d + 1) hb hb' (by omega)
    have e : k + ((d + 1 : Nat) : Int) + 1 = k + d + 1 + 1 := by omega
    rw [e]
    omega
/-- a greater value has no lower bucket -/
theorem bkt_mono (b u v : Int) (hb : 2 ≤ b) (hb' : b ≤ 8) (hu : 0 ≤ u) (huv : u ≤ v) (hv : v < 1125899906842624) : bkt b u ≤ bkt b v := by
  obtain ⟨u1, u2, u3, u4⟩ := bkt_within b u hb hb' hu (by omega)
  obtain ⟨v1, v2, v3, v4⟩ := bkt_within b v hb hb' (by omega) hv
  rcases ilt_or_ge (bkt b v) (bkt b u) with h | h
  · exfalso
    have := hiB_lt b hb hb' (bkt b v) v1 (bkt b u - bkt b v - 1).toNat
    have e : bkt b v + ((bkt b u - bkt b v - 1).toNat : Int) + 1 = bkt b u := by omega
    rw [e] at this
    omega
  · exact h
/-- the counts of the first places, as a sum by a test of the buckets -/
theorem tot_test (P : Int → Bool) : ∀ (cs : List (Int × Int)) (i : Nat), (∀ c ∈ cs.take i, P c.1 = true) → (∀ c ∈ cs.drop i, P c.1 = false) →
    sumAt (fun y => if P y = true then 0 else 1) cs 0 = tot (cs.take i) := by
  intro cs
  induction cs with
  | nil => intro i _ _; simp [sumAt, tot]
  | cons c cs ih =>
    intro i h1 h2
    rcases i with _ | i
    · have h3 := ih 0 (by simp) (fun d hd => h2 d (by simp at hd ⊢; exact .inr hd))
      have h4 := h2 c (by simp)
      simp only [sumAt, tot, List.take_zero, List.map_nil, List.sum_nil, List.map_cons, List.sum_cons, h4] at *
      rw [h3]; simp
    · have h3 := ih i (fun d hd => h1 d (by simp [hd])) (fun d hd => h2 d (by simpa using hd))
      have h4 := h1 c (by simp)
      simp only [sumAt, tot, List.take_succ_cons, List.map_cons, List.sum_cons, h4, if_true] at *
      omega
theorem countP_test (b : Int) (zs : List Int) (P : Int → Bool) : zs.countP (fun v => (fun y => if P y = true then (0 : Int) else 1) (bkt b v) == 0) = zs.countP (fun v => P (bkt b v)) := by
  congr 1
  funext v
  cases h : P (bkt b v) <;> simp [h]
/-- how many values are ahead of a place, and up to it -/
theorem tot_ahead {b : Int} {zs : List Int} {cs : List (Int × Int)} (h : IsHist (cntB b zs) cs) {i : Nat} {x n : Int} (hx : cs[i]? = some (x, n)) :
    tot (cs.take i) = zs.countP (fun v => decide (bkt b v < x)) ∧ tot (cs.take (i + 1)) = zs.countP (fun v => decide (bkt b v ≤ x)) := by
  have hs := h.1
  rw [List.pairwise_iff_getElem] at hs
  have hi : i < cs.length := (List.getElem?_eq_some_iff.1 hx).1
  have hxe : cs[i] = (x, n) := (List.getElem?_eq_some_iff.1 hx).2
  constructor
  · rw [← tot_test (fun y => decide (y < x)) cs i, hist_sums h]
    · exact congrArg (fun n : Nat => (n : Int)) (countP_test b zs (fun y => decide (y < x)))
    · intro c hc
      obtain ⟨j, hj, e⟩ := List.getElem_of_mem hc
      simp only [List.length_take] at hj
      rw [List.getElem_take] at e
      have := hs j i (by omega) hi (by omega)
      rw [hxe, e] at this
      simpa using this
    · intro c hc
      obtain ⟨j, hj, e⟩ := List.getElem_of_mem hc
      simp only [List.length_drop] at hj
      rw [List.getElem_drop] at e
      rcases Nat.eq_zero_or_pos j with rfl | hp
      · simp only [Nat.add_zero, hxe] at e
        subst e; simp
      · have := hs i (i + j) hi (by omega) (by omega)
        rw [hxe, e] at this
        simp only at this
        simp; omega
  · rw [← tot_test (fun y => decide (y ≤ x)) cs (i + 1), hist_sums h]
    · exact congrArg (fun n : Nat => (n : Int)) (countP_test b zs (fun y => decide (y ≤ x)))
    · intro c hc
      obtain ⟨j, hj, e⟩ := List.getElem_of_mem hc
      simp only [List.length_take] at hj
      rw [List.getElem_take] at e
      by_cases hji : j = i
      · subst hji
        rw [hxe] at e; subst e; simp
      · have := hs j i (by omega) hi (by omega)
        rw [hxe, e] at this
        simp only at this
        simp; omega
    · intro c hc
      obtain ⟨j, hj, e⟩ := List.getElem_of_mem hc
      simp only [List.length_drop] at hj
      rw [List.getElem_drop] at e
      have := hs i (i + 1 + j) hi (by omega) (by omega)
      rw [hxe, e] at this
      simp only at this
      simp; omega
theorem tot_all {b : Int} {zs : List Int} {cs : List (Int × Int)} (h : IsHist (cntB b zs) cs) : tot cs = zs.length := by
  have h1 := tot_test (fun _ => true) cs cs.length (by simp) (by simp)
  rw [List.take_length] at h1
  rw [← h1, hist_sums h]
  simp
/-- the value of the rank lies within the limits of the bucket of the rank -/
theorem rank_within {b : Int} {zs : List Int} {cs : List (Int × Int)} (h : IsHist (cntB b zs) cs) (hb : 2 ≤ b) (hb' : b ≤ 8) (hz : ∀ v ∈ zs, fineV v = true) {i : Nat} {x n k : Int} (hx : cs[i]? = some (x, n))
    (h1 : tot (cs.take i) < k) (h2 : k ≤ tot (cs.take (i + 1))) {v : Int} (hv : v ∈ zs) (hnot : k ≤ zs.countP (fun u => decide (u ≤ v))) (hless : (zs.countP (fun u => decide (u < v)) : Int) < k) :
    loB b x ≤ v ∧ v ≤ hiB b x := by
  have hf : ∀ u ∈ zs, 0 ≤ u ∧ u < 1125899906842624 := fun u hu => by have := hz u hu; simp [fineV] at this; omega
  obtain ⟨e1, e2⟩ := tot_ahead h hx
  rw [e1] at h1
  rw [e2] at h2
  have hw := bkt_within b v hb hb' (hf v hv).1 (hf v hv).2
  have hxb : bkt b v = x := by
    rcases Int.lt_trichotomy (bkt b v) x with hlt | he | hgt
    · exfalso
      have : zs.countP (fun u => decide (u ≤ v)) ≤ zs.countP (fun u => decide (bkt b u < x)) := by
        apply List.countP_mono_left
        intro u hu h'
        have := bkt_mono b u v hb hb' (hf u hu).1 (by simpa using h') (hf v hv).2
        simp; omega
      omega
    · exact he
    · exfalso
      have : zs.countP (fun u => decide (bkt b u ≤ x)) ≤ zs.countP (fun u => decide (u < v)) := by
        apply List.countP_mono_left
        intro u hu h'
        simp only [decide_eq_true_eq] at h' ⊢
        rcases ilt_or_ge u v with h3 | h3
        · exact h3
        · have := bkt_mono b v u hb hb' (hf v hv).1 h3 (hf u hu).2
          omega
      omega
  rw [← hxb]
  exact hw.2.2
/-- the rank of a quantile -/
def rnk (n num den : Int) : Int := max 1 (n * num / den + if 0 < n * num % den then 1 else 0)
theorem ceil_le (a d m : Int) (hd : 0 < d) (h : a ≤ m * d) : a / d + (if 0 < a % d then 1 else 0) ≤ m := by
  have e := Int.mul_ediv_add_emod a d
  have r1 := Int.emod_nonneg a (show d ≠ 0 by omega)
  have h1 : a / d ≤ m := by
    have : a / d < m + 1 := by
      rw [Int.ediv_lt_iff_lt_mul hd, Int.add_mul]; omega
    omega
  split
  · rcases Int.lt_or_eq_of_le h1 with h2 | h2
    · omega
    · exfalso
      rw [h2, Int.mul_comm] at e
      omega
  · omega
theorem ceil_lt (a d m : Int) (hd : 0 < d) (h : m * d < a) : m < a / d + (if 0 < a % d then 1 else 0) := by
  have e := Int.mul_ediv_add_emod a d
  have r0 := Int.emod_nonneg a (show d ≠ 0 by omega)
  have r1 := Int.emod_lt_of_pos a hd
  have h1 : m ≤ a / d := by
    rw [Int.le_ediv_iff_mul_le hd]; omega
  split
  · omega
  · rcases Int.lt_or_eq_of_le h1 with h2 | h2
    · omega
    · exfalso
      rw [← h2, Int.mul_comm] at e
      omega
theorem rnk_le {n num den m : Int} (hd : 0 < den) (hm : 1 ≤ m) (h : n * num ≤ m * den) : rnk n num den ≤ m := by
  have := ceil_le (n * num) den m hd h
  unfold rnk; omega
theorem lt_rnk {n num den m : Int} (hd : 0 < den) (h : m = 0 ∨ m * den < n * num) : m < rnk n num den := by
  rcases h with rfl | h
  · unfold rnk; omega
  · have := ceil_lt (n * num) den m hd h
    unfold rnk; omega
theorem rnk_bd {n num den : Int} (hn : 1 ≤ n) (h0 : 0 ≤ num) (h1 : num ≤ den) (hd : 0 < den) : 1 ≤ rnk n num den ∧ rnk n num den ≤ n :=
  ⟨by unfold rnk; omega, rnk_le hd hn (Int.mul_le_mul_of_nonneg_left h1 (by omega))⟩
/-- the width of a bucket -/
theorem width (b k : Int) (hb : 2 ≤ b) (hb' : b ≤ 8) (hk : 0 ≤ k) (hk' : k ≤ maxB b) : hiB b k - loB b k ≤ loB b k / hB b := by
  have hH := hB_bd b hb hb'
  rcases ilt_or_ge k (2 * hB b) with h | h
  · obtain ⟨e1, e2⟩ := loB_lo b k h
    rw [e1, e2]
    have := Int.ediv_nonneg (a := k) (b := hB b) hk (by omega)
    omega
  · obtain ⟨q0, q1, r0, r1, e1, e2, _, _⟩ := lim_words b k hb hb' hk hk' h
    have hp := pow_one_le ((k - 2 * hB b) / hB b + 1).toNat
    generalize (2 : Int) ^ ((k - 2 * hB b) / hB b + 1).toNat = p at *
    have : p ≤ loB b k / hB b := by
      rw [Int.le_ediv_iff_mul_le (by omega), e1, Int.mul_comm]
      exact Int.mul_le_mul_of_nonneg_right (by omega) (by omega)
    have e3 : (k % hB b + hB b + 1) * p = (k % hB b + hB b) * p + p := by rw [Int.add_mul _ 1]; omega
    omega
/-- the first place at which a sum of counts is reached -/
theorem tot_reach (cs : List (Int × Int)) (k : Int) (h : k ≤ tot cs) (h0 : 0 < k) : ∃ i x n, cs[i]? = some (x, n) ∧ tot (cs.take i) < k ∧ k ≤ tot (cs.take (i + 1)) ∧ ∀ j, j < i → tot (cs.take (j + 1)) < k := by
  have key : ∀ m, m ≤ cs.length → tot (cs.take m) < k ∧ (∀ j, j < m → tot (cs.take (j + 1)) < k) ∨ ∃ i x n, cs[i]? = some (x, n) ∧ tot (cs.take i) < k ∧ k ≤ tot (cs.take (i + 1)) ∧ ∀ j, j < i → tot (cs.take (j + 1)) < k := by
    intro m
    induction m with
    | zero => intro _; left; simp [tot]; exact h0
    | succ m ih =>
      intro hm
      rcases ih (by omega) with ⟨h1, h2⟩ | h1
      · rcases ilt_or_ge (tot (cs.take (m + 1))) k with h3 | h3
        · left
          refine ⟨h3, fun j hj => ?_⟩
          rcases Nat.lt_or_ge j m with h4 | h4
          · exact h2 j h4
          · obtain rfl : j = m := by omega
            exact h3
        · right
          exact ⟨m, (cs[m]'(by omega)).1, (cs[m]'(by omega)).2, List.getElem?_eq_getElem (by omega), h1, h3, h2⟩
      · exact .inr h1
  rcases key cs.length (Nat.le_refl _) with ⟨h1, _⟩ | h1
  · rw [List.take_length] at h1; omega
  · exact h1
end Go.Proofs.Ytgmbgclhljobaaa
