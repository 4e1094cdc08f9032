import Derived.Test.YtepfmoaihhonlaaGreatDoorMoreMath
import Derived.Test.YtepfmoaihhonlaaGreatDoorG7
/- Histograms of values: what their counts add up to; what passes Check. No program in sight. -/
namespace Go.Proofs.YtepfmoaihhonlaaGreatDoor
open Go Go.RowKit Go.Proofs Go.Maps
theorem sumAt_moreR (g : Int → Int) (k n : Int) (x : Int) : ∀ cs : List (Int × Int), sumAt g (moreR k n cs) x = sumAt g cs x + if g k = x then n else 0
  | [] => by simp [moreR, sumAt]
  | c :: r => by
    unfold moreR
    split
    · split
      · rename_i e
        subst e
        simp only [sumAt, List.map_cons, List.sum_cons]
        split <;> omega
      · simp only [sumAt, List.map_cons, List.sum_cons]; omega
    · have ih := sumAt_moreR g k n x r
      simp only [sumAt, List.map_cons, List.sum_cons] at *
      omega
theorem sumAt_more (g : Int → Int) (k n : Int) (x : Int) (cs : List (Int × Int)) : sumAt g (moreL k n cs) x = sumAt g cs x + if g k = x then n else 0 := by
  rw [moreL_eq]
  by_cases h : n = 0
  · subst h; simp
  · rw [if_neg h, sumAt_moreR]
/-- the histogram of values, and what its counts add up to -/
theorem hist_sum (b : Int) (l : List Int) : ∃ cs, IsHist (cntB b l.reverse) cs ∧ ∀ g x, sumAt g cs x = l.reverse.countP (fun v => g (bkt b v) == x) := by
  induction l with
  | nil => exact ⟨[], ⟨List.Pairwise.nil, fun x n => by simp [cntB]; omega⟩, fun g x => by simp [sumAt]⟩
  | cons v l ih =>
    obtain ⟨cs, h1, h2⟩ := ih
    refine ⟨moreL (bkt b v) 1 cs, ?_, fun g x => ?_⟩
    · rw [List.reverse_cons, ← cntB_snoc]
      exact more_hist h1 (fun x => (cntB_bd b _ x).1) (bkt b v) 1 (by omega)
    · rw [sumAt_more, h2, List.reverse_cons, List.countP_append]
      by_cases h : g (bkt b v) = x
      · simp [h]
      · simp [h]
theorem hist_sums {b : Int} {zs : List Int} {cs : List (Int × Int)} (h : IsHist (cntB b zs) cs) (g : Int → Int) (x : Int) : sumAt g cs x = zs.countP (fun v => g (bkt b v) == x) := by
  obtain ⟨cs', h1, h2⟩ := hist_sum b zs.reverse
  rw [List.reverse_reverse] at h1 h2
  rw [IsHist.uniq h h1]
  exact h2 g x
theorem tot_le (cs : List (Int × Int)) (M : Nat) (h : ∀ c ∈ cs, c.2 ≤ M) : tot cs ≤ cs.length * M := by
  induction cs with
  | nil => simp [tot]
  | cons c cs ih =>
    have := ih (fun d hd => h d (by simp [hd]))
    have := h c (by simp)
    simp only [tot, List.map_cons, List.sum_cons, List.length_cons] at *
    rw [Int.natCast_add, Int.add_mul]; omega
/-- what has these properties passes Check -/
theorem Good.code {b : Int} {cs : List (Int × Int)} (h : Good b cs) : codeH b cs = 0 := by
  obtain ⟨hb, hb', _, h4, h5, h6⟩ := h
  have hfb : fineB b = true := by simp [fineB]; omega
  rw [codeH_end hfb]
  · rw [if_neg (by omega)]
  · intro j hj
    have hm := h4 cs[j] (List.getElem_mem hj)
    have hx : cs[j]? = some (cs[j].1, cs[j].2) := List.getElem?_eq_getElem hj
    have hfk : fineK b cs[j].1 = true := by simp [fineK]; omega
    rw [step_num hx hfk ?_, if_neg (by omega)]
    rcases Nat.eq_zero_or_pos j with h0 | h0
    · exact .inl h0
    · right
      refine ⟨cs[j - 1].1, cs[j - 1].2, List.getElem?_eq_getElem (by omega), ?_⟩
      rw [List.pairwise_iff_getElem] at h5
      exact h5 (j - 1) j (by omega) hj (by omega)
theorem good_of_values {b : Int} {zs : List Int} {cs : List (Int × Int)} (h : IsHist (cntB b zs) cs) (hb : 2 ≤ b) (hb' : b ≤ 8) (hz : ∀ v ∈ zs, fineV v = true) (hl : zs.length ≤ 1000000) : Good b cs := by
  have hmx := maxB_bd b hb hb'
  have hlen := hist_len h (maxB b) (fun x hx => cntB_wf b zs x hb hb' hz hx)
  have hc : ∀ c ∈ cs, (0 ≤ c.1 ∧ c.1 ≤ maxB b) ∧ 1 ≤ c.2 ∧ c.2 ≤ 1000000 := by
    intro c hc
    obtain ⟨x, n⟩ := c
    have h1 := (h.2 x n).1 hc
    have h2 := cntB_wf b zs x hb hb' hz (by omega)
    have h3 := cntB_bd b zs x
    simp only; omega
  have ht := tot_le cs 1000000 (fun c hc' => (hc c hc').2.2)
  refine ⟨hb, hb', by omega, fun c hc' => ?_, h.1, ?_⟩
  · have := hc c hc'; omega
  · have : (cs.length : Int) * ((1000000 : Nat) : Int) ≤ 6001 * 1000000 := by omega
    omega
end Go.Proofs.YtepfmoaihhonlaaGreatDoor

/- Ranks among the values of a histogram, and the widths of buckets. No program in sight. -/
namespace Go.Proofs.YtepfmoaihhonlaaGreatDoor
open Go Go.RowKit Go.Proofs Go.Maps

theorem hiB_lt (b : Int) (hb : 2 ≤ b) (hb' : b ≤ 8) (k : Int) (hk : 0 ≤ k) (d : Nat) : hiB b k < loB b (k + d + 1) := by
  induction d with
  | zero =>
    have := loB_next b k hb hb' hk
    simp only [Int.natCast_zero, Int.add_zero] at *
    omega
  | succ d ih =>
    have h1 := loB_next b (k + d + 1) hb hb' (by omega)
    have h2 := loB_bd b (k + d + 1) hb hb' (by omega)
    have e : k + ((d + 1 : Nat) : Int) + 1 = k + d + 1 + 1 := by omega
    rw [e]
    omega
/-- a greater value has no lower bucket -/
theorem bkt_mono (b u v : Int) (hb : 2 ≤ b) (hb' : b ≤ 8) (hu : 0 ≤ u) (huv : u ≤ v) (hv : v < 1125899906842624) : bkt b u ≤ bkt b v := by
  obtain ⟨u1, u2, u3, u4⟩ := bkt_within b u hb hb' hu (by omega)
  obtain ⟨v1, v2, v3, v4⟩ := bkt_within b v hb hb' (by omega) hv
  rcases ilt_or_ge (bkt b v) (bkt b u) with h | h
  · exfalso
    have := hiB_lt b hb hb' (bkt b v) v1 (bkt b u - bkt b v - 1).toNat
    have e : bkt b v + ((bkt b u - bkt b v - 1).toNat : Int) + 1 = bkt b u := by omega
    rw [e] at this
    omega
  · exact h
/-- the counts of the first places, as a sum by a test of the buckets -/
theorem tot_test (P : Int → Bool) : ∀ (cs : List (Int × Int)) (i : Nat), (∀ c ∈ cs.take i, P c.1 = true) → (∀ c ∈ cs.drop i, P c.1 = false) →
    sumAt (fun y => if P y = true then 0 else 1) cs 0 = tot (cs.take i) := by
  intro cs
  induction cs with
  | nil => intro i _ _; simp [sumAt, tot]
  | cons c cs ih =>
    intro i h1 h2
    rcases i with _ | i
    · have h3 := ih 0 (by simp) (fun d hd => h2 d (by simp at hd ⊢; exact .inr hd))
      have h4 := h2 c (by simp)
      simp only [sumAt, tot, List.take_zero, List.map_nil, List.sum_nil, List.map_cons, List.sum_cons, h4] at *
      rw [h3]; simp
    · have h3 := ih i (fun d hd => h1 d (by simp [hd])) (fun d hd => h2 d (by simpa using hd))
      have h4 := h1 c (by simp)
      simp only [sumAt, tot, List.take_succ_cons, List.map_cons, List.sum_cons, h4, if_true] at *
      omega
theorem countP_test (b : Int) (zs : List Int) (P : Int → Bool) : zs.countP (fun v => (fun y => if P y = true then (0 : Int) else 1) (bkt b v) == 0) = zs.countP (fun v => P (bkt b v)) := by
  congr 1
  funext v
  cases h : P (bkt b v) <;> simp [h]
/-- how many values are ahead of a place, and up to it -/
theorem tot_ahead {b : Int} {zs : List Int} {cs : List (Int × Int)} (h : IsHist (cntB b zs) cs) {i : Nat} {x n : Int} (hx : cs[i]? = some (x, n)) :
    tot (cs.take i) = zs.countP (fun v => decide (bkt b v < x)) ∧ tot (cs.take (i + 1)) = zs.countP (fun v => decide (bkt b v ≤ x)) := by
  have hs := h.1
  rw [List.pairwise_iff_getElem] at hs
  have hi : i < cs.length := (List.getElem?_eq_some_iff.1 hx).1
  have hxe : cs[i] = (x, n) := (List.getElem?_eq_some_iff.1 hx).2
  constructor
  · rw [← tot_test (fun y => decide (y < x)) cs i, hist_sums h]
    · exact congrArg (fun n : Nat => (n : Int)) (countP_test b zs (fun y => decide (y < x)))
    · intro c hc
      obtain ⟨j, hj, e⟩ := List.getElem_of_mem hc
      simp only [List.length_take] at hj
      rw [List.getElem_take] at e
      have := hs j i (by omega) hi (by omega)
      rw [hxe, e] at this
      simpa using this
    · intro c hc
      obtain ⟨j, hj, e⟩ := List.getElem_of_mem hc
      simp only [List.length_drop] at hj
      rw [List.getElem_drop] at e
      rcases Nat.eq_zero_or_pos j with rfl | hp
      · simp only [Nat.add_zero, hxe] at e
        subst e; simp
      · have := hs i (i + j) hi (by omega) (by omega)
        rw [hxe, e] at this
        simp only at this
        simp; omega
  · rw [← tot_test (fun y => decide (y ≤ x)) cs (i + 1), hist_sums h]
    · exact congrArg (fun n : Nat => (n : Int)) (countP_test b zs (fun y => decide (y ≤ x)))
    · intro c hc
      obtain ⟨j, hj, e⟩ := List.getElem_of_mem hc
      simp only [List.length_take] at hj
      rw [List.getElem_take] at e
      by_cases hji : j = i
      · subst hji
        rw [hxe] at e; subst e; simp
      · have := hs j i (by omega) hi (by omega)
        rw [hxe, e] at this
        simp only at this
        simp; omega
    · intro c hc
      obtain ⟨j, hj, e⟩ := List.getElem_of_mem hc
      simp only [List.length_drop] at hj
      rw [List.getElem_drop] at e
      have := hs i (i + 1 + j) hi (by omega) (by omega)
      rw [hxe, e] at this
      simp only at this
      simp; omega
theorem tot_all {b : Int} {zs : List Int} {cs : List (Int × Int)} (h : IsHist (cntB b zs) cs) : tot cs = zs.length := by
  have h1 := tot_test (fun _ => true) cs cs.length (by simp) (by simp)
  rw [List.take_length] at h1
  rw [← h1, hist_sums h]
  simp
/-- the value of the rank lies within the limits of the bucket of the rank -/
theorem rank_within {b : Int} {zs : List Int} {cs : List (Int × Int)} (h : IsHist (cntB b zs) cs) (hb : 2 ≤ b) (hb' : b ≤ 8) (hz : ∀ v ∈ zs, fineV v = true) {i : Nat} {x n k : Int} (hx : cs[i]? = some (x, n))
    (h1 : tot (cs.take i) < k) (h2 : k ≤ tot (cs.take (i + 1))) {v : Int} (hv : v ∈ zs) (hnot : k ≤ zs.countP (fun u => decide (u ≤ v))) (hless : (zs.countP (fun u => decide (u < v)) : Int) < k) :
    loB b x ≤ v ∧ v ≤ hiB b x := by
  have hf : ∀ u ∈ zs, 0 ≤ u ∧ u < 1125899906842624 := fun u hu => by have := hz u hu; simp [fineV] at this; omega
  obtain ⟨e1, e2⟩ := tot_ahead h hx
  rw [e1] at h1
  rw [e2] at h2
  have hw := bkt_within b v hb hb' (hf v hv).1 (hf v hv).2
  have hxb : bkt b v = x := by
    rcases Int.lt_trichotomy (bkt b v) x with hlt | he | hgt
    · exfalso
      have : zs.countP (fun u => decide (u ≤ v)) ≤ zs.countP (fun u => decide (bkt b u < x)) := by
        apply List.countP_mono_left
        intro u hu h'
        have := bkt_mono b u v hb hb' (hf u hu).1 (by simpa using h') (hf v hv).2
        simp; omega
      omega
    · exact he
    · exfalso
      have : zs.countP (fun u => decide (bkt b u ≤ x)) ≤ zs.countP (fun u => decide (u < v)) := by
        apply List.countP_mono_left
        intro u hu h'
        simp only [decide_eq_true_eq] at h' ⊢
        rcases ilt_or_ge u v with h3 | h3
        · exact h3
        · have := bkt_mono b v u hb hb' (hf v hv).1 h3 (hf u hu).2
          omega
      omega
  rw [← hxb]
  exact hw.2.2
/-- the rank of a quantile -/
def rnk (n num den : Int) : Int := max 1 (n * num / den + if 0 < n * num % den then 1 else 0)
theorem ceil_le (a d m : Int) (hd : 0 < d) (h : a ≤ m * d) : a / d + (if 0 < a % d then 1 else 0) ≤ m := by
  have e := Int.mul_ediv_add_emod a d
  have r1 := Int.emod_nonneg a (show d ≠ 0 by omega)
  have h1 : a / d ≤ m := by
    have : a / d < m + 1 := by
      rw [Int.ediv_lt_iff_lt_mul hd, Int.add_mul]; omega
    omega
  split
  · rcases Int.lt_or_eq_of_le h1 with h2 | h2
    · omega
    · exfalso
      rw [h2, Int.mul_comm] at e
      omega
  · omega
theorem ceil_lt (a d m : Int) (hd : 0 < d) (h : m * d < a) : m < a / d + (if 0 < a % d then 1 else 0) := by
  have e := Int.mul_ediv_add_emod a d
  have r0 := Int.emod_nonneg a (show d ≠ 0 by omega)
  have r1 := Int.emod_lt_of_pos a hd
  have h1 : m ≤ a / d := by
    rw [Int.le_ediv_iff_mul_le hd]; omega
  split
  · omega
  · rcases Int.lt_or_eq_of_le h1 with h2 | h2
    · omega
    · exfalso
      rw [← h2, Int.mul_comm] at e
      omega
theorem rnk_le {n num den m : Int} (hd : 0 < den) (hm : 1 ≤ m) (h : n * num ≤ m * den) : rnk n num den ≤ m := by
  have := ceil_le (n * num) den m hd h
  unfold rnk; omega
theorem lt_rnk {n num den m : Int} (hd : 0 < den) (h : m = 0 ∨ m * den < n * num) : m < rnk n num den := by
  rcases h with rfl | h
  · unfold rnk; omega
  · have := ceil_lt (n * num) den m hd h
    unfold rnk; omega
theorem rnk_bd {n num den : Int} (hn : 1 ≤ n) (h0 : 0 ≤ num) (h1 : num ≤ den) (hd : 0 < den) : 1 ≤ rnk n num den ∧ rnk n num den ≤ n :=
  ⟨by unfold rnk; omega, rnk_le hd hn (Int.mul_le_mul_of_nonneg_left h1 (by omega))⟩
/-- the width of a bucket -/
theorem width (b k : Int) (hb : 2 ≤ b) (hb' : b ≤ 8) (hk : 0 ≤ k) (hk' : k ≤ maxB b) : hiB b k - loB b k ≤ loB b k / hB b := by
  have hH := hB_bd b hb hb'
  rcases ilt_or_ge k (2 * hB b) with h | h
  · obtain ⟨e1, e2⟩ := loB_lo b k h
    rw [e1, e2]
    have := Int.ediv_nonneg (a := k) (b := hB b) hk (by omega)
    omega
  · obtain ⟨q0, q1, r0, r1, e1, e2, _, _⟩ := lim_words b k hb hb' hk hk' h
    have hp := pow_one_le ((k - 2 * hB b) / hB b + 1).toNat
    generalize (2 : Int) ^ ((k - 2 * hB b) / hB b + 1).toNat = p at *
    have : p ≤ loB b k / hB b := by
      rw [Int.le_ediv_iff_mul_le (by omega), e1, Int.mul_comm]
      exact Int.mul_le_mul_of_nonneg_right (by omega) (by omega)
    have e3 : (k % hB b + hB b + 1) * p = (k % hB b + hB b) * p + p := by rw [Int.add_mul _ 1]; omega
    omega
/-- the first place at which a sum of counts is reached -/
theorem tot_reach (cs : List (Int × Int)) (k : Int) (h : k ≤ tot cs) (h0 : 0 < k) : ∃ i x n, cs[i]? = some (x, n) ∧ tot (cs.take i) < k ∧ k ≤ tot (cs.take (i + 1)) ∧ ∀ j, j < i → tot (cs.take (j + 1)) < k := by
  have key : ∀ m, m ≤ cs.length → tot (cs.take m) < k ∧ (∀ j, j < m → tot (cs.take (j + 1)) < k) ∨ ∃ i x n, cs[i]? = some (x, n) ∧ tot (cs.take i) < k ∧ k ≤ tot (cs.take (i + 1)) ∧ ∀ j, j < i → tot (cs.take (j + 1)) < k := by
    intro m
    induction m with
    | zero => intro _; left; simp [tot]; exact h0
    | succ m ih =>
      intro hm
      rcases ih (by omega) with ⟨h1, h2⟩ | h1
      · rcases ilt_or_ge (tot (cs.take (m + 1))) k with h3 | h3
        · left
          refine ⟨h3, fun j hj => ?_⟩
          rcases Nat.lt_or_ge j m with h4 | h4
          · exact h2 j h4
          · obtain rfl : j = m := by omega
            exact h3
        · right
          exact ⟨m, (cs[m]'(by omega)).1, (cs[m]'(by omega)).2, List.getElem?_eq_getElem (by omega), h1, h3, h2⟩
      · exact .inr h1
  rcases key cs.length (Nat.le_refl _) with ⟨h1, _⟩ | h1
  · rw [List.take_length] at h1; omega
  · exact h1
end Go.Proofs.YtepfmoaihhonlaaGreatDoor

/- Numbers as lists of digits, the lowest first: plain. -/
namespace Go.Proofs.YtepfmoaihhonlaaGreatDoor

/-- the number with these digits in base B -/
def val (B : Nat) : List Nat → Nat
  | [] => 0
  | d :: r => d + B * val B r
/-- digits below B, no zero at the end -/
def Norm (B : Nat) (l : List Nat) : Prop := (∀ d ∈ l, d < B) ∧ l.getLast? ≠ some 0
theorem val_append (B : Nat) : ∀ a b : List Nat, val B (a ++ b) = val B a + B ^ a.length * val B b
  | [], b => by simp [val]
  | d :: a, b => by
    have ih := val_append B a b
    simp only [List.cons_append, val, ih, List.length_cons, Nat.pow_succ]
    rw [Nat.mul_add, Nat.add_assoc, ← Nat.mul_assoc, Nat.mul_comm B (B ^ a.length)]
theorem val_snoc (B : Nat) (a : List Nat) (d : Nat) : val B (a ++ [d]) = val B a + B ^ a.length * d := by
  rw [val_append]; simp [val]
theorem val_lt {B : Nat} : ∀ {l : List Nat}, (∀ d ∈ l, d < B) → val B l < B ^ l.length
  | [], _ => by simp [val]
  | d :: r, h => by
    have ih := val_lt (fun x hx => h x (by simp [hx]) : ∀ x ∈ r, x < B)
    have hd := h d (by simp)
    simp only [val, List.length_cons, Nat.pow_succ]
    have : B * val B r + B ≤ B ^ r.length * B := by
      have := Nat.mul_le_mul_left B (show val B r + 1 ≤ B ^ r.length by omega)
      rw [Nat.mul_add, Nat.mul_one, Nat.mul_comm B (B ^ r.length)] at this
      exact this
    omega
theorem val_ge {B : Nat} (_hB : 1 < B) {l : List Nat} (h : Norm B l) (hl : l ≠ []) : B ^ (l.length - 1) ≤ val B l := by
  rcases List.eq_nil_or_concat l with rfl | ⟨a, d, rfl⟩
  · exact absurd rfl hl
  · rw [List.concat_eq_append] at *
    have hd : d ≠ 0 := by
      intro e
      apply h.2
      simp [e]
    rw [val_snoc]
    simp only [List.length_append, List.length_singleton, Nat.add_sub_cancel]
    have : B ^ a.length * 1 ≤ B ^ a.length * d := Nat.mul_le_mul_left _ (by omega)
    omega
theorem norm_nil (B : Nat) : Norm B [] := ⟨fun _ h => by simp at h, by simp⟩
theorem val_zero {B : Nat} (hB : 1 < B) {l : List Nat} (h : Norm B l) : val B l = 0 ↔ l = [] := by
  constructor
  · intro h0
    refine Classical.byContradiction fun hl => ?_
    have := val_ge hB h hl
    have : 0 < B ^ (l.length - 1) := Nat.pow_pos (by omega)
    omega
  · rintro rfl; rfl
/-- a longer number is a greater one -/
theorem val_len_lt {B : Nat} (hB : 1 < B) {a b : List Nat} (ha : Norm B a) (hb : Norm B b) (h : a.length < b.length) : val B a < val B b := by
  have h1 := val_lt ha.1
  have hbn : b ≠ [] := by intro e; rw [e] at h; simp at h
  have h2 := val_ge hB hb hbn
  have h3 : B ^ a.length ≤ B ^ (b.length - 1) := Nat.pow_le_pow_right (by omega) (by omega)
  omega
/-- the first place from above at which two numbers of one length part -/
theorem val_part {B : Nat} (a b : List Nat) (x y : Nat) (s : List Nat) (hl : a.length = b.length) (ha : ∀ d ∈ a, d < B) (hxy : x < y) : val B (a ++ x :: s) < val B (b ++ y :: s) := by
  rw [val_append, val_append]
  simp only [val]
  have h1 := val_lt ha
  rw [← hl]
  have h2 : B ^ a.length * (x + B * val B s) + B ^ a.length ≤ B ^ a.length * (y + B * val B s) := by
    have := Nat.mul_le_mul_left (B ^ a.length) (show x + B * val B s + 1 ≤ y + B * val B s by omega)
    rw [Nat.mul_add, Nat.mul_one] at this
    exact this
  omega
theorem val_inj {B : Nat} (hB : 1 < B) : ∀ {a b : List Nat}, Norm B a → Norm B b → val B a = val B b → a = b := by
  intro a
  induction a with
  | nil => intro b _ hb h; exact ((val_zero hB hb).1 h.symm).symm
  | cons d a ih =>
    intro b ha hb h
    cases b with
    | nil => exact (val_zero hB ha).1 h
    | cons e b =>
      have hd := ha.1 d (by simp)
      have he := hb.1 e (by simp)
      simp only [val] at h
      have e1 : d = e := by
        have := congrArg (· % B) h
        simp only [Nat.add_mul_mod_self_left, Nat.mod_eq_of_lt hd, Nat.mod_eq_of_lt he] at this
        exact this
      subst e1
      have e2 : val B a = val B b := Nat.eq_of_mul_eq_mul_left (show 0 < B by omega) (by omega)
      have nt : ∀ {x : Nat} {l : List Nat}, Norm B (x :: l) → Norm B l := by
        intro x l hn
        refine ⟨fun z hz => hn.1 z (by simp [hz]), ?_⟩
        cases l with
        | nil => simp
        | cons y l =>
          have := hn.2
          rwa [List.getLast?_cons_cons] at this
      rw [ih (nt ha) (nt hb) e2]
/-- without zeros at the end -/
def trim : List Nat → List Nat
  | [] => []
  | d :: r => if d = 0 ∧ trim r = [] then [] else d :: trim r
theorem trim_val (B : Nat) : ∀ l, val B (trim l) = val B l
  | [] => rfl
  | d :: r => by
    have ih := trim_val B r
    unfold trim
    split
    · rename_i h
      rw [h.2] at ih
      simp only [val] at *
      rw [← ih, h.1]; simp
    · simp only [val, ih]
theorem trim_norm {B : Nat} : ∀ {l : List Nat}, (∀ d ∈ l, d < B) → Norm B (trim l)
  | [], _ => norm_nil B
  | d :: r, h => by
    have ih := trim_norm (l := r) (fun x hx => h x (by simp [hx]))
    unfold trim
    split
    · exact norm_nil B
    · rename_i hn
      refine ⟨fun x hx => ?_, ?_⟩
      · rcases List.mem_cons.1 hx with e | e
        · rw [e]; exact h d (by simp)
        · exact ih.1 x e
      · cases ht : trim r with
        | nil =>
          simp only [List.getLast?_singleton, ne_eq, Option.some.injEq]
          intro e
          exact hn ⟨e, ht⟩
        | cons y s =>
          rw [List.getLast?_cons_cons, ← ht]
          exact ih.2
/-- the loop that cuts zeros at the end: the first n digits, if those behind them are zeros -/
theorem trim_take : ∀ (l : List Nat) (n : Nat), n ≤ l.length → (∀ i, n ≤ i → i < l.length → l[i]? = some 0) → (n = 0 ∨ l[n - 1]? ≠ some 0) → trim l = l.take n
  | [], n, hn, _, _ => by simp [trim]
  | d :: r, 0, _, hz, _ => by
    have h0 := hz 0 (by omega) (by simp)
    simp at h0
    have := trim_take r 0 (by omega) (fun i _ hi => by have := hz (i + 1) (by omega) (by simp; omega); simpa using this) (.inl rfl)
    unfold trim
    rw [if_pos ⟨h0, by simpa using this⟩]; rfl
  | d :: r, n + 1, hn, hz, hl => by
    simp only [List.length_cons] at hn
    have ih := trim_take r n (by omega) (fun i h1 h2 => by have := hz (i + 1) (by omega) (by simp; omega); simpa using this) (by
      rcases Nat.eq_zero_or_pos n with h | h
      · exact .inl h
      · right
        rcases hl with h' | h'
        · omega
        · have e : n + 1 - 1 = (n - 1) + 1 := by omega
          rw [e, List.getElem?_cons_succ] at h'
          exact h')
    unfold trim
    rw [if_neg, ih]
    · rfl
    · rintro ⟨h1, h2⟩
      rw [ih] at h2
      rcases hl with h' | h'
      · omega
      · cases n with
        | zero => apply h'; simp [h1]
        | succ n =>
          have : r.take (n + 1) = [] := h2
          cases r with
          | nil => simp at hn
          | cons y s => simp at this
theorem trim_length (l : List Nat) : (trim l).length ≤ l.length := by
  induction l with
  | nil => simp [trim]
  | cons d r ih => unfold trim; split <;> simp; omega
end Go.Proofs.YtepfmoaihhonlaaGreatDoor
