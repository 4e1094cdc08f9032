/- Histograms of values: what their counts add up to; what passes Check. No program in sight. -/
import Derived.Test.YtgmbgclhljobaaaDoorMoreMath
import Derived.Test.YtgmbgclhljobaaaDoorSum
namespace Go.Proofs.YtgmbgclhljobaaaDoor
open Go Go.RowKit Go.Proofs Go.Maps
theorem sumAt_moreR (g : Int → Int) (k n : Int) (x : Int) : ∀ cs : List (Int × Int), sumAt g (moreR k n cs) x = sumAt g cs x + if g k = x then n else 0
  | [] => by simp [moreR, sumAt]
  | c :: r => by
    unfold moreR
    split
    · split
      · rename_i e
        subst e
        simp only [sumAt, List.map_cons, List.sum_cons]
        split <;> omega
      · simp only [sumAt, List.map_cons, List.sum_cons]; omega
    · have ih := sumAt_moreR g k n x r
      simp only [sumAt, List.map_cons, List.sum_cons] at *
      omega
theorem sumAt_more (g : Int → Int) (k n : Int) (x : Int) (cs : List (Int × Int)) : sumAt g (moreL k n cs) x = sumAt g cs x + if g k = x then n else 0 := by
  rw [moreL_eq]
  by_cases h : n = 0
  · subst h; simp
  · rw [if_neg h, sumAt_moreR]
/-- the histogram of values, and what its counts add up to -/
theorem hist_sum (b : Int) (l : List Int) : ∃ cs, IsHist (cntB b l.reverse) cs ∧ ∀ g x, sumAt g cs x = l.reverse.countP (fun v => g (bkt b v) == x) := by
  induction l with
  | nil => exact ⟨[], ⟨List.Pairwise.nil, fun x n => by simp [cntB]; omega⟩, fun g x => by simp [sumAt]⟩
  | cons v l ih =>
    obtain ⟨cs, h1, h2⟩ := ih
    refine ⟨moreL (bkt b v) 1 cs, ?_, fun g x => ?_⟩
    · rw [List.reverse_cons, ← cntB_snoc]
      exact more_hist h1 (fun x => (cntB_bd b _ x).1) (bkt b v) 1 (by omega)
    · rw [sumAt_more, h2, List.reverse_cons, List.countP_append]
      by_cases h : g (bkt b v) = x
      · simp [h]
      · simp [h]
theorem hist_sums {b : Int} {zs : List Int} {cs : List (Int × Int)} (h : IsHist (cntB b zs) cs) (g : Int → Int) (x : Int) : sumAt g cs x = zs.countP (fun v => g (bkt b v) == x) := by
  obtain ⟨cs', h1, h2⟩ := hist_sum b zs.reverse
  rw [List.reverse_reverse] at h1 h2
  rw [IsHist.uniq h h1]
  exact h2 g x
theorem tot_le (cs : List (Int × Int)) (M : Nat) (h : ∀ c ∈ cs, c.2 ≤ M) : tot cs ≤ cs.length * M := by
  induction cs with
  | nil => simp [tot]
  | cons c cs ih =>
    have := ih (fun d hd => h d (by simp [hd]))
    have := h c (by simp)
    simp only [tot, List.map_cons, List.sum_cons, List.length_cons] at *
    rw [Int.natCast_add, Int.add_mul]; omega
/-- what has these properties passes Check -/
theorem Good.code {b : Int} {cs : List (Int × Int)} (h : Good b cs) : codeH b cs = 0 := by
  obtain ⟨hb, hb', _, h4, h5, h6⟩ := h
  have hfb : fineB b = true := by simp [fineB]; omega
  rw [codeH_end hfb]
  · rw [if_neg (by omega)]
  · intro j hj
    have hm := h4 cs[j] (List.getElem_mem hj)
    have hx : cs[j]? = some (cs[j].1, cs[j].2) := List.getElem?_eq_getElem hj
    have hfk : fineK b cs[j].1 = true := by simp [fineK]; omega
    rw [step_num hx hfk ?_, if_neg (by omega)]
    rcases Nat.eq_zero_or_pos j with h0 | h0
    · exact .inl h0
    · right
      refine ⟨cs[j - 1].1, cs[j - 1].2, List.getElem?_eq_getElem (by omega), ?_⟩
      rw [List.pairwise_iff_getElem] at h5
      exact h5 (j - 1) j (by omega) hj (by omega)
theorem good_of_values {b : Int} {zs : List Int} {cs : List (Int × Int)} (h : IsHist (cntB b zs) cs) (hb : 2 ≤ b) (hb' : b ≤ 8) (hz : ∀ v ∈ zs, fineV v = true) (hl : zs.length ≤ 1000000) : Good b cs := by
  have hmx := maxB_bd b hb hb'
  have hlen := hist_len h (maxB b) (fun x hx => cntB_wf b zs x hb hb' hz hx)
  have hc : ∀ c ∈ cs, (0 ≤ c.1 ∧ c.1 ≤ maxB b) ∧ 1 ≤ c.2 ∧ c.2 ≤ 1000000 := by
    intro c hc
    obtain ⟨x, n⟩ := c
    have h1 := (h.2 x n).1 hc
    have h2 := cntB_wf b zs x hb hb' hz (by omega)
    have h3 := cntB_bd b zs x
    simp only; omega
  have ht := tot_le cs 1000000 (fun c hc' => (hc c hc').2.2)
  refine ⟨hb, hb', by omega, fun c hc' => ?_, h.1, ?_⟩
  · have := hc c hc'; omega
  · have : (cs.length : Int) * ((1000000 : Nat) : Int) ≤ 6001 * 1000000 := by omega
    omega
end Go.Proofs.YtgmbgclhljobaaaDoor
