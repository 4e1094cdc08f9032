/- Sums of counts, merged and taken away: no program in sight. -/
import Derived.Test.YtgmbgclhljobaaaDoorTell
namespace Go.Proofs.YtgmbgclhljobaaaDoor
open Go Go.RowKit Go.Proofs Go.Maps

theorem sumAt_append (g : Int → Int) (a b : List (Int × Int)) (x : Int) : sumAt g (a ++ b) x = sumAt g a x + sumAt g b x := by
  simp [sumAt, List.sum_append]
theorem tot_append (a b : List (Int × Int)) : tot (a ++ b) = tot a + tot b := by simp [tot, List.sum_append]
/-- a sorted list of positive counts is the histogram of its counts -/
theorem sorted_hist {cs : List (Int × Int)} (h4 : ∀ c ∈ cs, 1 ≤ c.2) (h5 : cs.Pairwise (fun a b => a.1 < b.1)) : IsHist (sumAt id cs) cs := by
  refine ⟨h5, ?_⟩
  revert h4 h5
  induction cs with
  | nil => intro _ _ x n; simp [sumAt]; omega
  | cons c cs ih =>
    intro h4 h5
    rw [List.pairwise_cons] at h5
    have ih := ih (fun d hd => h4 d (by simp [hd])) h5.2
    intro x n
    have hc := h4 c (by simp)
    have hs : sumAt id (c :: cs) x = (if c.1 = x then c.2 else 0) + sumAt id cs x := by simp [sumAt]
    have hz : c.1 = x → sumAt id cs x = 0 := by
      intro e
      by_cases hne : sumAt id cs x = 0
      · exact hne
      · obtain ⟨d, hd, e'⟩ := sumAt_ne id cs x hne
        have := h5.1 d hd
        simp only [id] at e'
        omega
    rw [List.mem_cons, ih x n, hs]
    obtain ⟨y, m⟩ := c
    simp only [Prod.mk.injEq] at *
    by_cases e : y = x
    · rw [if_pos e, hz e]; omega
    · rw [if_neg e]; omega
theorem hist_pos {f : Int → Int} {cs : List (Int × Int)} (h : IsHist f cs) : ∀ c ∈ cs, 1 ≤ c.2 := by
  intro c hc
  obtain ⟨x, n⟩ := c
  have := (h.2 x n).1 hc
  simp only; omega
/-- the counts of a histogram add up to what it is the histogram of -/
theorem hist_back {f : Int → Int} {cs : List (Int × Int)} (h : IsHist f cs) (hf : ∀ x, 0 ≤ f x) : sumAt id cs = f := by
  have h2 := sorted_hist (hist_pos h) h.1
  funext x
  by_cases h0 : 0 < f x
  · have := (h.2 x (f x)).2 ⟨rfl, h0⟩
    exact ((h2.2 x (f x)).1 this).1
  · have hz := hf x
    by_cases h1 : sumAt id cs x = 0
    · omega
    · have hb := (sumAt_bd id cs x (fun c hc => by have := hist_pos h c hc; omega)).1
      have := (h2.2 x (sumAt id cs x)).2 ⟨rfl, by omega⟩
      have := ((h.2 x _).1 this).1
      omega
/-- all that is counted, place by place -/
def sumTo (f : Int → Int) : Nat → Int
  | 0 => 0
  | n + 1 => sumTo f n + f n
theorem sumTo_add (f g : Int → Int) : ∀ n, sumTo (fun x => f x + g x) n = sumTo f n + sumTo g n
  | 0 => rfl
  | n + 1 => by simp only [sumTo, sumTo_add f g n]; omega
theorem sumTo_one (y m : Int) (hy : 0 ≤ y) : ∀ n : Nat, sumTo (fun x => if y = x then m else 0) n = if y < n then m else 0
  | 0 => by simp [sumTo]; omega
  | n + 1 => by
    simp only [sumTo, sumTo_one y m hy n]
    by_cases h1 : y < n
    · rw [if_pos h1, if_neg (by omega), if_pos (by omega)]; omega
    · by_cases h2 : y = n
      · rw [if_neg h1, if_pos h2, if_pos (by omega)]; omega
      · rw [if_neg h1, if_neg h2, if_neg (by omega)]; omega
theorem sumTo_zero : ∀ n, sumTo (fun _ => 0) n = 0
  | 0 => rfl
  | n + 1 => by simp [sumTo, sumTo_zero n]
theorem tot_sumTo (n : Nat) : ∀ cs : List (Int × Int), (∀ c ∈ cs, 0 ≤ c.1 ∧ c.1 < n) → tot cs = sumTo (sumAt id cs) n
  | [], _ => by rw [sumAt_nil, sumTo_zero]; rfl
  | c :: cs, h => by
    have ih := tot_sumTo n cs (fun d hd => h d (by simp [hd]))
    have hc := h c (by simp)
    have e : sumAt id (c :: cs) = fun x => (if c.1 = x then c.2 else 0) + sumAt id cs x := by funext x; simp [sumAt]
    rw [e, sumTo_add, ← ih, sumTo_one _ _ hc.1, if_pos hc.2]
    simp [tot]
/-- what a histogram adds up to -/
theorem hist_tot {cs ds : List (Int × Int)} {b : Int} (h : IsHist (sumAt id ds) cs) (hd : ∀ c ∈ ds, (0 ≤ c.1 ∧ c.1 ≤ maxB b) ∧ 0 ≤ c.2) (hb : 2 ≤ b) (hb' : b ≤ 8) : tot cs = tot ds ∧ ∀ c ∈ cs, 0 ≤ c.1 ∧ c.1 ≤ maxB b := by
  have hmx := maxB_bd b hb hb'
  have hn : ∀ x, 0 ≤ sumAt id ds x := fun x => (sumAt_bd id ds x (fun c hc => (hd c hc).2)).1
  have hk : ∀ c ∈ cs, 0 ≤ c.1 ∧ c.1 ≤ maxB b := by
    intro c hc
    obtain ⟨x, n⟩ := c
    have h1 := (h.2 x n).1 hc
    obtain ⟨d, hd', e⟩ := sumAt_ne id ds x (by omega)
    have := (hd d hd').1
    simp only [id] at e
    rw [e] at this; exact this
  refine ⟨?_, hk⟩
  rw [tot_sumTo (maxB b + 1).toNat cs (fun c hc => by have := hk c hc; omega), tot_sumTo (maxB b + 1).toNat ds (fun c hc => by have := (hd c hc).1; omega), hist_back h hn]
theorem Good.cells {b : Int} {cs : List (Int × Int)} (h : Good b cs) : ∀ c ∈ cs, (0 ≤ c.1 ∧ c.1 ≤ maxB b) ∧ 0 ≤ c.2 := fun c hc => by have := h.2.2.2.1 c hc; omega
theorem Good.pos {b : Int} {cs : List (Int × Int)} (h : Good b cs) : 0 ≤ tot cs := by
  have := tot_bd cs (fun c hc => (h.2.2.2.1 c hc).2); omega
/-- a histogram of counts of good places, not too many -/
theorem good_of_sum {b : Int} {cs ds : List (Int × Int)} (h : IsHist (sumAt id ds) cs) (hd : ∀ c ∈ ds, (0 ≤ c.1 ∧ c.1 ≤ maxB b) ∧ 0 ≤ c.2) (hb : 2 ≤ b) (hb' : b ≤ 8) (ht : tot ds ≤ 1125899906842624) : Good b cs := by
  obtain ⟨h1, h2⟩ := hist_tot h hd hb hb'
  have hmx := maxB_bd b hb hb'
  have hlen := hist_len h (maxB b) (fun x hx => by
    obtain ⟨d, hd', e⟩ := sumAt_ne id ds x hx
    have := (hd d hd').1
    simp only [id] at e
    rw [e] at this; exact this)
  refine ⟨hb, hb', by omega, fun c hc => ⟨h2 c hc, hist_pos h c hc, ?_⟩, h.1, by omega⟩
  obtain ⟨x, n⟩ := c
  have h3 := (h.2 x n).1 hc
  have h4 := (sumAt_bd id ds x (fun c hc => (hd c hc).2)).2
  simp only; omega
theorem good_merge {b : Int} {cs a c : List (Int × Int)} (h : IsHist (sumAt id (a ++ c)) cs) (ha : Good b a) (hc : Good b c) (ht : tot a + tot c ≤ 1125899906842624) : Good b cs :=
  good_of_sum h (fun x hx => (List.mem_append.1 hx).elim (ha.cells x) (hc.cells x)) ha.1 ha.2.1 (by rw [tot_append]; exact ht)
/-- the counts of two lists of values together -/
theorem hist_both {b : Int} {za zb : List Int} {a c : List (Int × Int)} (ha : IsHist (cntB b za) a) (hc : IsHist (cntB b zb) c) : sumAt id (a ++ c) = cntB b (za ++ zb) := by
  funext x
  rw [sumAt_append, hist_sums ha, hist_sums hc]
  unfold cntB
  rw [List.countP_append]
  simp
theorem hist_tell {b : Int} {cs : List (Int × Int)} (h : Good b cs) : (∀ c ∈ cs, I64 c.1 ∧ I64 c.2) ∧ cs.length ≤ 100000000 := by
  obtain ⟨h1, h2, h3, h4, _⟩ := h
  have hmx := maxB_bd b h1 h2
  exact ⟨fun c hc => by have := h4 c hc; unfold I64; omega, by omega⟩
end Go.Proofs.YtgmbgclhljobaaaDoor
