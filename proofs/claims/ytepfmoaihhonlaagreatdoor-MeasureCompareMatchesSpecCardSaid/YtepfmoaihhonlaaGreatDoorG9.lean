import Derived.Test.YtepfmoaihhonlaaGreatDoorChk
import Derived.Test.YtepfmoaihhonlaaGreatDoorG8
/- Sums of counts by place; what a histogram that passes Check has; the map's run equations. -/
namespace Go.Proofs.YtepfmoaihhonlaaGreatDoor
open Go Go.RowKit Go.Proofs Go.Maps

/-- how many are at x, if the count c goes to g of its bucket -/
def sumAt (g : Int → Int) (cs : List (Int × Int)) (x : Int) : Int := (cs.map fun c => if g c.1 = x then c.2 else 0).sum
theorem sumAt_nil (g : Int → Int) : sumAt g [] = fun _ => 0 := by funext x; simp [sumAt]
theorem sumAt_snoc (g : Int → Int) (cs : List (Int × Int)) (y m : Int) : upd (sumAt g cs) (g y) (sumAt g cs (g y) + m) = sumAt g (cs ++ [(y, m)]) := by
  funext x
  unfold upd sumAt
  rw [List.map_append, List.sum_append]
  by_cases h : x = g y
  · subst h; simp
  · rw [if_neg h]
    have h' : ¬ g y = x := fun e => h e.symm
    simp [h']
theorem sumAt_bd (g : Int → Int) (cs : List (Int × Int)) (x : Int) (h : ∀ c ∈ cs, 0 ≤ c.2) : 0 ≤ sumAt g cs x ∧ sumAt g cs x ≤ tot cs := by
  induction cs with
  | nil => simp [sumAt, tot]
  | cons c cs ih =>
    have h1 := ih (fun d hd => h d (by simp [hd]))
    have h2 := h c (by simp)
    simp only [sumAt, tot, List.map_cons, List.sum_cons] at *
    split <;> omega
theorem sumAt_ne (g : Int → Int) (cs : List (Int × Int)) (x : Int) (h : sumAt g cs x ≠ 0) : ∃ c ∈ cs, g c.1 = x := by
  induction cs with
  | nil => simp [sumAt] at h
  | cons c cs ih =>
    by_cases e : g c.1 = x
    · exact ⟨c, by simp, e⟩
    · simp only [sumAt, List.map_cons, List.sum_cons, if_neg e, Int.zero_add] at h
      obtain ⟨d, hd, e'⟩ := ih h
      exact ⟨d, by simp [hd], e'⟩
theorem tot_take_le (cs : List (Int × Int)) (h : ∀ c ∈ cs, 0 ≤ c.2) (k : Nat) : tot (cs.take k) ≤ tot cs := by
  have : tot cs = tot (cs.take k) + tot (cs.drop k) := by
    unfold tot
    rw [← List.sum_append, ← List.map_append, List.take_append_drop]
  have h2 : ∀ (l : List (Int × Int)), (∀ c ∈ l, 0 ≤ c.2) → 0 ≤ tot l := by
    intro l
    induction l with
    | nil => simp [tot]
    | cons c l ih =>
      intro hl
      have h1 := ih (fun d hd => hl d (by simp [hd]))
      have h3 := hl c (by simp)
      simp only [tot, List.map_cons, List.sum_cons] at *
      omega
  have := h2 (cs.drop k) (fun c hc => h c (List.mem_of_mem_drop hc))
  omega

/-- what a histogram has that passes Check -/
def Good (b : Int) (cs : List (Int × Int)) : Prop := 2 ≤ b ∧ b ≤ 8 ∧ cs.length ≤ 6001 ∧ (∀ c ∈ cs, (0 ≤ c.1 ∧ c.1 ≤ maxB b) ∧ 1 ≤ c.2 ∧ c.2 ≤ 1125899906842624) ∧ cs.Pairwise (fun a b => a.1 < b.1) ∧ tot cs ≤ 1125899906842624
theorem okTo_sorted {b : Int} {cs : List (Int × Int)} (h : okTo b cs cs.length) : cs.Pairwise (fun a b => a.1 < b.1) := by
  rw [List.pairwise_iff_getElem]
  have key : ∀ (d i : Nat), i + d + 1 < cs.length → (cs.getD i (0, 0)).1 < (cs.getD (i + d + 1) (0, 0)).1 := by
    intro d
    induction d with
    | zero => intro i hi; have := (okTo_step (h (i + 1) (by omega))).2.1 (by omega); simpa using this
    | succ d ih =>
      intro i hi
      have h1 := ih i (by omega)
      have h2 := (okTo_step (h (i + (d + 1) + 1) (by omega))).2.1 (by omega)
      simp only [Nat.add_sub_cancel] at h2
      have e : i + (d + 1) = i + d + 1 := by omega
      rw [e] at h2
      rw [show i + (d + 1) + 1 = i + d + 1 + 1 by omega]
      omega
  intro i j hi hj hij
  have := key (j - i - 1) i (by omega)
  rw [show i + (j - i - 1) + 1 = j by omega] at this
  simpa [List.getD_eq_getElem?_getD, List.getElem?_eq_getElem hi, List.getElem?_eq_getElem hj] using this
theorem codeH_zero {b : Int} {cs : List (Int × Int)} (h : codeH b cs = 0) : Good b cs := by
  unfold codeH at h
  split at h
  · rename_i hb
    have hb' := hb
    simp [fineB] at hb'
    split at h
    · rename_i j hj
      have := List.find?_some hj
      simp at this
      exact absurd h this
    · rename_i hn
      rw [List.find?_range_eq_none] at hn
      have ho : okTo b cs cs.length := fun j hj => by have := hn j hj; simpa using this
      refine ⟨hb'.1, hb'.2, okTo_small hb'.1 hb'.2 _ ho, fun c hc => ?_, okTo_sorted ho, by split at h <;> omega⟩
      obtain ⟨j, hj, e⟩ := List.getElem_of_mem hc
      have := okTo_step (ho j hj)
      rw [List.getD_eq_getElem?_getD, List.getElem?_eq_getElem hj, Option.getD_some, e] at this
      have h1 := this.1
      simp [fineK] at h1
      exact ⟨h1, this.2.2⟩
  · omega
/-- a good histogram is that of its counts -/
theorem Good.hist {b : Int} {cs : List (Int × Int)} (h : Good b cs) : IsHist (sumAt id cs) cs := by
  obtain ⟨-, -, -, h4, h5, -⟩ := h
  refine ⟨h5, ?_⟩
  revert h4 h5
  induction cs with
  | nil => intro _ _ x n; simp [sumAt]; omega
  | cons c cs ih =>
    intro h4 h5
    rw [List.pairwise_cons] at h5
    have ih := ih (fun d hd => h4 d (by simp [hd])) h5.2
    intro x n
    have hc := h4 c (by simp)
    have hs : sumAt id (c :: cs) x = (if c.1 = x then c.2 else 0) + sumAt id cs x := by simp [sumAt]
    have hz : c.1 = x → sumAt id cs x = 0 := by
      intro e
      by_cases hne : sumAt id cs x = 0
      · exact hne
      · obtain ⟨d, hd, e'⟩ := sumAt_ne id cs x hne
        have := h5.1 d hd
        simp only [id] at e'
        omega
    rw [List.mem_cons, ih x n, hs]
    obtain ⟨y, m⟩ := c
    simp only [Prod.mk.injEq] at *
    by_cases e : y = x
    · rw [if_pos e, hz e]; omega
    · rw [if_neg e]; omega

/-- the world behind 'm[x] = c' -/
noncomputable def putW (m : Nat) (x c : Int) (w : World) : World :=
  match (Instr.mapUpdate 200 (.map (some m)) (.int .i64 x) (.int .i64 c)).run Tryz.prog w with | .ok _ w' => w' | _ => w
theorem putW_run {w : World} {m n : Nat} {f : Int → Int} (h : MapII w m n f) (hn : n < 100000000) (x c : Int) (hx : (Lit.int .i64 x).wf = true) (hc : (Lit.int .i64 c).wf = true) :
    (Instr.mapUpdate 200 (.map (some m)) (.int .i64 x) (.int .i64 c)).run Tryz.prog w = .ok () (putW m x c w) ∧ MapII (putW m x c w) m (n + 1) (upd f x c) ∧ w.grownBy (putW m x c w) (some m) := by
  obtain ⟨D, hown, hD⟩ := h
  obtain ⟨w', hrun, h1, h2⟩ := hown.update law3 Tryz.underlying200 (by unfold maxLen; omega) (keyOf_int_mk Tryz.underlying3 hx) (plainElem_int Tryz.underlying3 hc)
  have e : putW m x c w = w' := by unfold putW; rw [hrun]
  rw [e]
  exact ⟨hrun, mapII_put (_w := w) hD (isMap_of_owns hown) h1, h2⟩
theorem lookW_run {w : World} {m n : Nat} {f : Int → Int} (h : MapII w m n f) (x : Int) (hx : (Lit.int .i64 x).wf = true) :
    (Instr.lookup 200 (.map (some m)) (.int .i64 x) false).run Tryz.prog w = .ok (.int .i64 (f x)) w := by
  obtain ⟨D, hown, hD⟩ := h
  obtain ⟨c, hrun, hat, _⟩ := hown.lookup_int law3 Tryz.underlying200 Tryz.underlying3 (zero3 _) (keyOf_int_mk Tryz.underlying3 hx)
  have : c = f x := lit_inj (hat.symm.trans (hD x hx))
  rw [hrun, this]
end Go.Proofs.YtepfmoaihhonlaaGreatDoor

/- Histograms of values: what their counts add up to; what passes Check. No program in sight. -/
namespace Go.Proofs.YtepfmoaihhonlaaGreatDoor
open Go Go.RowKit Go.Proofs Go.Maps
theorem sumAt_moreR (g : Int → Int) (k n : Int) (x : Int) : ∀ cs : List (Int × Int), sumAt g (moreR k n cs) x = sumAt g cs x + if g k = x then n else 0
  | [] => by simp [moreR, sumAt]
  | c :: r => by
    unfold moreR
    split
    · split
      · rename_i e
        subst e
        simp only [sumAt, List.map_cons, List.sum_cons]
        split <;> omega
      · simp only [sumAt, List.map_cons, List.sum_cons]; omega
    · have ih := sumAt_moreR g k n x r
      simp only [sumAt, List.map_cons, List.sum_cons] at *
      omega
theorem sumAt_more (g : Int → Int) (k n : Int) (x : Int) (cs : List (Int × Int)) : sumAt g (moreL k n cs) x = sumAt g cs x + if g k = x then n else 0 := by
  rw [moreL_eq]
  by_cases h : n = 0
  · subst h; simp
  · rw [if_neg h, sumAt_moreR]
/-- the histogram of values, and what its counts add up to -/
theorem hist_sum (b : Int) (l : List Int) : ∃ cs, IsHist (cntB b l.reverse) cs ∧ ∀ g x, sumAt g cs x = l.reverse.countP (fun v => g (bkt b v) == x) := by
  induction l with
  | nil => exact ⟨[], ⟨List.Pairwise.nil, fun x n => by simp [cntB]; omega⟩, fun g x => by simp [sumAt]⟩
  | cons v l ih =>
    obtain ⟨cs, h1, h2⟩ := ih
    refine ⟨moreL (bkt b v) 1 cs, ?_, fun g x => ?_⟩
    · rw [List.reverse_cons, ← cntB_snoc]
      exact more_hist h1 (fun x => (cntB_bd b _ x).1) (bkt b v) 1 (by omega)
    · rw [sumAt_more, h2, List.reverse_cons, List.countP_append]
      by_cases h : g (bkt b v) = x
      · simp [h]
      · simp [h]
theorem hist_sums {b : Int} {zs : List Int} {cs : List (Int × Int)} (h : IsHist (cntB b zs) cs) (g : Int → Int) (x : Int) : sumAt g cs x = zs.countP (fun v => g (bkt b v) == x) := by
  obtain ⟨cs', h1, h2⟩ := hist_sum b zs.reverse
  rw [List.reverse_reverse] at h1 h2
  rw [IsHist.uniq h h1]
  exact h2 g x
theorem tot_le (cs : List (Int × Int)) (M : Nat) (h : ∀ c ∈ cs, c.2 ≤ M) : tot cs ≤ cs.length * M := by
  induction cs with
  | nil => simp [tot]
  | cons c cs ih =>
    have := ih (fun d hd => h d (by simp [hd]))
    have := h c (by simp)
    simp only [tot, List.map_cons, List.sum_cons, List.length_cons] at *
    rw [Int.natCast_add, Int.add_mul]; omega
/-- what has these properties passes Check -/
theorem Good.code {b : Int} {cs : List (Int × Int)} (h : Good b cs) : codeH b cs = 0 := by
  obtain ⟨hb, hb', _, h4, h5, h6⟩ := h
  have hfb : fineB b = true := by simp [fineB]; omega
  rw [codeH_end hfb]
  · rw [if_neg (by omega)]
  · intro j hj
    have hm := h4 cs[j] (List.getElem_mem hj)
    have hx : cs[j]? = some (cs[j].1, cs[j].2) := List.getElem?_eq_getElem hj
    have hfk : fineK b cs[j].1 = true := by simp [fineK]; omega
    rw [step_num hx hfk ?_, if_neg (by omega)]
    rcases Nat.eq_zero_or_pos j with h0 | h0
    · exact .inl h0
    · right
      refine ⟨cs[j - 1].1, cs[j - 1].2, List.getElem?_eq_getElem (by omega), ?_⟩
      rw [List.pairwise_iff_getElem] at h5
      exact h5 (j - 1) j (by omega) hj (by omega)
theorem good_of_values {b : Int} {zs : List Int} {cs : List (Int × Int)} (h : IsHist (cntB b zs) cs) (hb : 2 ≤ b) (hb' : b ≤ 8) (hz : ∀ v ∈ zs, fineV v = true) (hl : zs.length ≤ 1000000) : Good b cs := by
  have hmx := maxB_bd b hb hb'
  have hlen := hist_len h (maxB b) (fun x hx => cntB_wf b zs x hb hb' hz hx)
  have hc : ∀ c ∈ cs, (0 ≤ c.1 ∧ c.1 ≤ maxB b) ∧ 1 ≤ c.2 ∧ c.2 ≤ 1000000 := by
    intro c hc
    obtain ⟨x, n⟩ := c
    have h1 := (h.2 x n).1 hc
    have h2 := cntB_wf b zs x hb hb' hz (by omega)
    have h3 := cntB_bd b zs x
    simp only; omega
  have ht := tot_le cs 1000000 (fun c hc' => (hc c hc').2.2)
  refine ⟨hb, hb', by omega, fun c hc' => ?_, h.1, ?_⟩
  · have := hc c hc'; omega
  · have : (cs.length : Int) * ((1000000 : Nat) : Int) ≤ 6001 * 1000000 := by omega
    omega
end Go.Proofs.YtepfmoaihhonlaaGreatDoor

/- Ranks among the values of a histogram, and the widths of buckets. No program in sight. -/
namespace Go.Proofs.YtepfmoaihhonlaaGreatDoor
open Go Go.RowKit Go.Proofs Go.Maps

theorem hiB_lt (b : Int) (hb : 2 ≤ b) (hb' : b ≤ 8) (k : Int) (hk : 0 ≤ k) (d : Nat) : hiB b k < loB b (k + d + 1) := by
  induction d with
  | zero =>
    have := loB_next b k hb hb' hk
    simp only [Int.natCast_zero, Int.add_zero] at *
    omega
  | succ d ih =>
    have h1 := loB_next b (k + d + 1) hb hb' (by omega)
    have h2 := loB_bd b (k + d + 1) hb hb' (by omega)
    have e : k + ((d + 1 : Nat) : Int) + 1 = k + d + 1 + 1 := by omega
    rw [e]
    omega
/-- a greater value has no lower bucket -/
theorem bkt_mono (b u v : Int) (hb : 2 ≤ b) (hb' : b ≤ 8) (hu : 0 ≤ u) (huv : u ≤ v) (hv : v < 1125899906842624) : bkt b u ≤ bkt b v := by
  obtain ⟨u1, u2, u3, u4⟩ := bkt_within b u hb hb' hu (by omega)
  obtain ⟨v1, v2, v3, v4⟩ := bkt_within b v hb hb' (by omega) hv
  rcases ilt_or_ge (bkt b v) (bkt b u) with h | h
  · exfalso
    have := hiB_lt b hb hb' (bkt b v) v1 (bkt b u - bkt b v - 1).toNat
    have e : bkt b v + ((bkt b u - bkt b v - 1).toNat : Int) + 1 = bkt b u := by omega
    rw [e] at this
    omega
  · exact h
/-- the counts of the first places, as a sum by a test of the buckets -/
theorem tot_test (P : Int → Bool) : ∀ (cs : List (Int × Int)) (i : Nat), (∀ c ∈ cs.take i, P c.1 = true) → (∀ c ∈ cs.drop i, P c.1 = false) →
    sumAt (fun y => if P y = true then 0 else 1) cs 0 = tot (cs.take i) := by
  intro cs
  induction cs with
  | nil => intro i _ _; simp [sumAt, tot]
  | cons c cs ih =>
    intro i h1 h2
    rcases i with _ | i
    · have h3 := ih 0 (by simp) (fun d hd => h2 d (by simp at hd ⊢; exact .inr hd))
      have h4 := h2 c (by simp)
      simp only [sumAt, tot, List.take_zero, List.map_nil, List.sum_nil, List.map_cons, List.sum_cons, h4] at *
      rw [h3]; simp
    · have h3 := ih i (fun d hd => h1 d (by simp [hd])) (fun d hd => h2 d (by simpa using hd))
      have h4 := h1 c (by simp)
      simp only [sumAt, tot, List.take_succ_cons, List.map_cons, List.sum_cons, h4, if_true] at *
      omega
theorem countP_test (b : Int) (zs : List Int) (P : Int → Bool) : zs.countP (fun v => (fun y => if P y = true then (0 : Int) else 1) (bkt b v) == 0) = zs.countP (fun v => P (bkt b v)) := by
  congr 1
  funext v
  cases h : P (bkt b v) <;> simp [h]
/-- how many values are ahead of a place, and up to it -/
theorem tot_ahead {b : Int} {zs : List Int} {cs : List (Int × Int)} (h : IsHist (cntB b zs) cs) {i : Nat} {x n : Int} (hx : cs[i]? = some (x, n)) :
    tot (cs.take i) = zs.countP (fun v => decide (bkt b v < x)) ∧ tot (cs.take (i + 1)) = zs.countP (fun v => decide (bkt b v ≤ x)) := by
  have hs := h.1
  rw [List.pairwise_iff_getElem] at hs
  have hi : i < cs.length := (List.getElem?_eq_some_iff.1 hx).1
  have hxe : cs[i] = (x, n) := (List.getElem?_eq_some_iff.1 hx).2
  constructor
  · rw [← tot_test (fun y => decide (y < x)) cs i, hist_sums h]
    · exact congrArg (fun n : Nat => (n : Int)) (countP_test b zs (fun y => decide (y < x)))
    · intro c hc
      obtain ⟨j, hj, e⟩ := List.getElem_of_mem hc
      simp only [List.length_take] at hj
      rw [List.getElem_take] at e
      have := hs j i (by omega) hi (by omega)
      rw [hxe, e] at this
      simpa using this
    · intro c hc
      obtain ⟨j, hj, e⟩ := List.getElem_of_mem hc
      simp only [List.length_drop] at hj
      rw [List.getElem_drop] at e
      rcases Nat.eq_zero_or_pos j with rfl | hp
      · simp only [Nat.add_zero, hxe] at e
        subst e; simp
      · have := hs i (i + j) hi (by omega) (by omega)
        rw [hxe, e] at this
        simp only at this
        simp; omega
  · rw [← tot_test (fun y => decide (y ≤ x)) cs (i + 1), hist_sums h]
    · exact congrArg (fun n : Nat => (n : Int)) (countP_test b zs (fun y => decide (y ≤ x)))
    · intro c hc
      obtain ⟨j, hj, e⟩ := List.getElem_of_mem hc
      simp only [List.length_take] at hj
      rw [List.getElem_take] at e
      by_cases hji : j = i
      · subst hji
        rw [hxe] at e; subst e; simp
      · have := hs j i (by omega) hi (by omega)
        rw [hxe, e] at this
        simp only at this
        simp; omega
    · intro c hc
      obtain ⟨j, hj, e⟩ := List.getElem_of_mem hc
      simp only [List.length_drop] at hj
      rw [List.getElem_drop] at e
      have := hs i (i + 1 + j) hi (by omega) (by omega)
      rw [hxe, e] at this
      simp only at this
      simp; omega
theorem tot_all {b : Int} {zs : List Int} {cs : List (Int × Int)} (h : IsHist (cntB b zs) cs) : tot cs = zs.length := by
  have h1 := tot_test (fun _ => true) cs cs.length (by simp) (by simp)
  rw [List.take_length] at h1
  rw [← h1, hist_sums h]
  simp
/-- the value of the rank lies within the limits of the bucket of the rank -/
theorem rank_within {b : Int} {zs : List Int} {cs : List (Int × Int)} (h : IsHist (cntB b zs) cs) (hb : 2 ≤ b) (hb' : b ≤ 8) (hz : ∀ v ∈ zs, fineV v = true) {i : Nat} {x n k : Int} (hx : cs[i]? = some (x, n))
    (h1 : tot (cs.take i) < k) (h2 : k ≤ tot (cs.take (i + 1))) {v : Int} (hv : v ∈ zs) (hnot : k ≤ zs.countP (fun u => decide (u ≤ v))) (hless : (zs.countP (fun u => decide (u < v)) : Int) < k) :
    loB b x ≤ v ∧ v ≤ hiB b x := by
  have hf : ∀ u ∈ zs, 0 ≤ u ∧ u < 1125899906842624 := fun u hu => by have := hz u hu; simp [fineV] at this; omega
  obtain ⟨e1, e2⟩ := tot_ahead h hx
  rw [e1] at h1
  rw [e2] at h2
  have hw := bkt_within b v hb hb' (hf v hv).1 (hf v hv).2
  have hxb : bkt b v = x := by
    rcases Int.lt_trichotomy (bkt b v) x with hlt | he | hgt
    · exfalso
      have : zs.countP (fun u => decide (u ≤ v)) ≤ zs.countP (fun u => decide (bkt b u < x)) := by
        apply List.countP_mono_left
        intro u hu h'
        have := bkt_mono b u v hb hb' (hf u hu).1 (by simpa using h') (hf v hv).2
        simp; omega
      omega
    · exact he
    · exfalso
      have : zs.countP (fun u => decide (bkt b u ≤ x)) ≤ zs.countP (fun u => decide (u < v)) := by
        apply List.countP_mono_left
        intro u hu h'
        simp only [decide_eq_true_eq] at h' ⊢
        rcases ilt_or_ge u v with h3 | h3
        · exact h3
        · have := bkt_mono b v u hb hb' (hf v hv).1 h3 (hf u hu).2
          omega
      omega
  rw [← hxb]
  exact hw.2.2
/-- the rank of a quantile -/
def rnk (n num den : Int) : Int := max 1 (n * num / den + if 0 < n * num % den then 1 else 0)
theorem ceil_le (a d m : Int) (hd : 0 < d) (h : a ≤ m * d) : a / d + (if 0 < a % d then 1 else 0) ≤ m := by
  have e := Int.mul_ediv_add_emod a d
  have r1 := Int.emod_nonneg a (show d ≠ 0 by omega)
  have h1 : a / d ≤ m := by
    have : a / d < m + 1 := by
      rw [Int.ediv_lt_iff_lt_mul hd, Int.add_mul]; omega
    omega
  split
  · rcases Int.lt_or_eq_of_le h1 with h2 | h2
    · omega
    · exfalso
      rw [h2, Int.mul_comm] at e
      omega
  · omega
theorem ceil_lt (a d m : Int) (hd : 0 < d) (h : m * d < a) : m < a / d + (if 0 < a % d then 1 else 0) := by
  have e := Int.mul_ediv_add_emod a d
  have r0 := Int.emod_nonneg a (show d ≠ 0 by omega)
  have r1 := Int.emod_lt_of_pos a hd
  have h1 : m ≤ a / d := by
    rw [Int.le_ediv_iff_mul_le hd]; omega
  split
  · omega
  · rcases Int.lt_or_eq_of_le h1 with h2 | h2
    · omega
    · exfalso
      rw [← h2, Int.mul_comm] at e
      omega
theorem rnk_le {n num den m : Int} (hd : 0 < den) (hm : 1 ≤ m) (h : n * num ≤ m * den) : rnk n num den ≤ m := by
  have := ceil_le (n * num) den m hd h
  unfold rnk; omega
theorem lt_rnk {n num den m : Int} (hd : 0 < den) (h : m = 0 ∨ m * den < n * num) : m < rnk n num den := by
  rcases h with rfl | h
  · unfold rnk; omega
  · have := ceil_lt (n * num) den m hd h
    unfold rnk; omega
theorem rnk_bd {n num den : Int} (hn : 1 ≤ n) (h0 : 0 ≤ num) (h1 : num ≤ den) (hd : 0 < den) : 1 ≤ rnk n num den ∧ rnk n num den ≤ n :=
  ⟨by unfold rnk; omega, rnk_le hd hn (Int.mul_le_mul_of_nonneg_left h1 (by omega))⟩
/-- the width of a bucket -/
theorem width (b k : Int) (hb : 2 ≤ b) (hb' : b ≤ 8) (hk : 0 ≤ k) (hk' : k ≤ maxB b) : hiB b k - loB b k ≤ loB b k / hB b := by
  have hH := hB_bd b hb hb'
  rcases ilt_or_ge k (2 * hB b) with h | h
  · obtain ⟨e1, e2⟩ := loB_lo b k h
    rw [e1, e2]
    have := Int.ediv_nonneg (a := k) (b := hB b) hk (by omega)
    omega
  · obtain ⟨q0, q1, r0, r1, e1, e2, _, _⟩ := lim_words b k hb hb' hk hk' h
    have hp := pow_one_le ((k - 2 * hB b) / hB b + 1).toNat
    generalize (2 : Int) ^ ((k - 2 * hB b) / hB b + 1).toNat = p at *
    have : p ≤ loB b k / hB b := by
      rw [Int.le_ediv_iff_mul_le (by omega), e1, Int.mul_comm]
      exact Int.mul_le_mul_of_nonneg_right (by omega) (by omega)
    have e3 : (k % hB b + hB b + 1) * p = (k % hB b + hB b) * p + p := by rw [Int.add_mul _ 1]; omega
    omega
/-- the first place at which a sum of counts is reached -/
theorem tot_reach (cs : List (Int × Int)) (k : Int) (h : k ≤ tot cs) (h0 : 0 < k) : ∃ i x n, cs[i]? = some (x, n) ∧ tot (cs.take i) < k ∧ k ≤ tot (cs.take (i + 1)) ∧ ∀ j, j < i → tot (cs.take (j + 1)) < k := by
  have key : ∀ m, m ≤ cs.length → tot (cs.take m) < k ∧ (∀ j, j < m → tot (cs.take (j + 1)) < k) ∨ ∃ i x n, cs[i]? = some (x, n) ∧ tot (cs.take i) < k ∧ k ≤ tot (cs.take (i + 1)) ∧ ∀ j, j < i → tot (cs.take (j + 1)) < k := by
    intro m
    induction m with
    | zero => intro _; left; simp [tot]; exact h0
    | succ m ih =>
      intro hm
      rcases ih (by omega) with ⟨h1, h2⟩ | h1
      · rcases ilt_or_ge (tot (cs.take (m + 1))) k with h3 | h3
        · left
          refine ⟨h3, fun j hj => ?_⟩
          rcases Nat.lt_or_ge j m with h4 | h4
          · exact h2 j h4
          · obtain rfl : j = m := by omega
            exact h3
        · right
          exact ⟨m, (cs[m]'(by omega)).1, (cs[m]'(by omega)).2, List.getElem?_eq_getElem (by omega), h1, h3, h2⟩
      · exact .inr h1
  rcases key cs.length (Nat.le_refl _) with ⟨h1, _⟩ | h1
  · rw [List.take_length] at h1; omega
  · exact h1
end Go.Proofs.YtepfmoaihhonlaaGreatDoor
