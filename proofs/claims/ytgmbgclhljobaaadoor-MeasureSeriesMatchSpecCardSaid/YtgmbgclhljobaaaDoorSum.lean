/- Sums of counts by place; what a histogram that passes Check has; the map's run equations. -/
import Derived.Test.YtgmbgclhljobaaaDoorChk
namespace Go.Proofs.YtgmbgclhljobaaaDoor
open Go Go.RowKit Go.Proofs Go.Maps

/-- how many are at x, if the count c goes to g of its bucket -/
def sumAt (g : Int → Int) (cs : List (Int × Int)) (x : Int) : Int := (cs.map fun c => if g c.1 = x then c.2 else 0).sum
theorem sumAt_nil (g : Int → Int) : sumAt g [] = fun _ => 0 := by funext x; simp [sumAt]
theorem sumAt_snoc (g : Int → Int) (cs : List (Int × Int)) (y m : Int) : upd (sumAt g cs) (g y) (sumAt g cs (g y) + m) = sumAt g (cs ++ [(y, m)]) := by
  funext x
  unfold upd sumAt
  rw [List.map_append, List.sum_append]
  by_cases h : x = g y
  · subst h; simp
  · rw [if_neg h]
    have h' : ¬ g y = x := fun e => h e.symm
    simp [h']
theorem sumAt_bd (g : Int → Int) (cs : List (Int × Int)) (x : Int) (h : ∀ c ∈ cs, 0 ≤ c.2) : 0 ≤ sumAt g cs x ∧ sumAt g cs x ≤ tot cs := by
  induction cs with
  | nil => simp [sumAt, tot]
  | cons c cs ih =>
    have h1 := ih (fun d hd => h d (by simp [hd]))
    have h2 := h c (by simp)
    simp only [sumAt, tot, List.map_cons, List.sum_cons] at *
    split <;> omega
theorem sumAt_ne (g : Int → Int) (cs : List (Int × Int)) (x : Int) (h : sumAt g cs x ≠ 0) : ∃ c ∈ cs, g c.1 = x := by
  induction cs with
  | nil => simp [sumAt] at h
  | cons c cs ih =>
    by_cases e : g c.1 = x
    · exact ⟨c, by simp, e⟩
    · simp only [sumAt, List.map_cons, List.sum_cons, if_neg e, Int.zero_add] at h
      obtain ⟨d, hd, e'⟩ := ih h
      exact ⟨d, by simp [hd], e'⟩
theorem tot_take_le (cs : List (Int × Int)) (h : ∀ c ∈ cs, 0 ≤ c.2) (k : Nat) : tot (cs.take k) ≤ tot cs := by
  have : tot cs = tot (cs.take k) + tot (cs.drop k) := by
    unfold tot
    rw [← List.sum_append, ← List.map_append, List.take_append_drop]
  have h2 : ∀ (l : List (Int × Int)), (∀ c ∈ l, 0 ≤ c.2) → 0 ≤ tot l := by
    intro l
    induction l with
    | nil => simp [tot]
    | cons c l ih =>
      intro hl
      have h1 := ih (fun d hd => hl d (by simp [hd]))
      have h3 := hl c (by simp)
      simp only [tot, List.map_cons, List.sum_cons] at *
      omega
  have := h2 (cs.drop k) (fun c hc => h c (List.mem_of_mem_drop hc))
  omega

/-- what a histogram has that passes Check -/
def Good (b : Int) (cs : List (Int × Int)) : Prop := 2 ≤ b ∧ b ≤ 8 ∧ cs.length ≤ 6001 ∧ (∀ c ∈ cs, (0 ≤ c.1 ∧ c.1 ≤ maxB b) ∧ 1 ≤ c.2 ∧ c.2 ≤ 1125899906842624) ∧ cs.Pairwise (fun a b => a.1 < b.1) ∧ tot cs ≤ 1125899906842624
theorem okTo_sorted {b : Int} {cs : List (Int × Int)} (h : okTo b cs cs.length) : cs.Pairwise (fun a b => a.1 < b.1) := by
  rw [List.pairwise_iff_getElem]
  have key : ∀ (d i : Nat), i + d + 1 < cs.length → (cs.getD i (0, 0)).1 < (cs.getD (i + d + 1) (0, 0)).1 := by
    intro d
    induction d with
    | zero => intro i hi; have := (okTo_step (h (i + 1) (by omega))).2.1 (by omega); simpa using this
    | succ d ih =>
      intro i hi
      have h1 := ih i (by omega)
      have h2 := (okTo_step (h (i + (d + 1) + 1) (by omega))).2.1 (by omega)
      simp only [Nat.add_sub_cancel] at h2
      have e : i + (d + 1) = i + d + 1 := by omega
      rw [e] at h2
      rw [show i + (d + 1) + 1 = i + d + 1 + 1 by omega]
      omega
  intro i j hi hj hij
  have := key (j - i - 1) i (by omega)
  rw [show i + (j - i - 1) + 1 = j by omega] at this
  simpa [List.getD_eq_getElem?_getD, List.getElem?_eq_getElem hi, List.getElem?_eq_getElem hj] using this
theorem codeH_zero {b : Int} {cs : List (Int × Int)} (h : codeH b cs = 0) : Good b cs := by
  unfold codeH at h
  split at h
  · rename_i hb
    have hb' := hb
    simp [fineB] at hb'
    split at h
    · rename_i j hj
      have := List.find?_some hj
      simp at this
      exact absurd h this
    · rename_i hn
      rw [List.find?_range_eq_none] at hn
      have ho : okTo b cs cs.length := fun j hj => by have := hn j hj; simpa using this
      refine ⟨hb'.1, hb'.2, okTo_small hb'.1 hb'.2 _ ho, fun c hc => ?_, okTo_sorted ho, by split at h <;> omega⟩
      obtain ⟨j, hj, e⟩ := List.getElem_of_mem hc
      have := okTo_step (ho j hj)
      rw [List.getD_eq_getElem?_getD, List.getElem?_eq_getElem hj, Option.getD_some, e] at this
      have h1 := this.1
      simp [fineK] at h1
      exact ⟨h1, this.2.2⟩
  · omega
/-- a good histogram is that of its counts -/
theorem Good.hist {b : Int} {cs : List (Int × Int)} (h : Good b cs) : IsHist (sumAt id cs) cs := by
  obtain ⟨-, -, -, h4, h5, -⟩ := h
  refine ⟨h5, ?_⟩
  revert h4 h5
  induction cs with
  | nil => intro _ _ x n; simp [sumAt]; omega
  | cons c cs ih =>
    intro h4 h5
    rw [List.pairwise_cons] at h5
    have ih := ih (fun d hd => h4 d (by simp [hd])) h5.2
    intro x n
    have hc := h4 c (by simp)
    have hs : sumAt id (c :: cs) x = (if c.1 = x then c.2 else 0) + sumAt id cs x := by simp [sumAt]
    have hz : c.1 = x → sumAt id cs x = 0 := by
      intro e
      by_cases hne : sumAt id cs x = 0
      · exact hne
      · obtain ⟨d, hd, e'⟩ := sumAt_ne id cs x hne
        have := h5.1 d hd
        simp only [id] at e'
        omega
    rw [List.mem_cons, ih x n, hs]
    obtain ⟨y, m⟩ := c
    simp only [Prod.mk.injEq] at *
    by_cases e : y = x
    · rw [if_pos e, hz e]; omega
    · rw [if_neg e]; omega

/-- the world behind 'm[x] = c' -/
noncomputable def putW (m : Nat) (x c : Int) (w : World) : World :=
  match (Instr.mapUpdate 59 (.map (some m)) (.int .i64 x) (.int .i64 c)).run Tryd.prog w with | .ok _ w' => w' | _ => w
theorem putW_run {w : World} {m n : Nat} {f : Int → Int} (h : MapII w m n f) (hn : n < 100000000) (x c : Int) (hx : (Lit.int .i64 x).wf = true) (hc : (Lit.int .i64 c).wf = true) :
    (Instr.mapUpdate 59 (.map (some m)) (.int .i64 x) (.int .i64 c)).run Tryd.prog w = .ok () (putW m x c w) ∧ MapII (putW m x c w) m (n + 1) (upd f x c) ∧ w.grownBy (putW m x c w) (some m) := by
  obtain ⟨D, hown, hD⟩ := h
  obtain ⟨w', hrun, h1, h2⟩ := hown.update law3 Tryd.underlying59 (by unfold maxLen; omega) (keyOf_int_mk Tryd.underlying3 hx) (plainElem_int Tryd.underlying3 hc)
  have e : putW m x c w = w' := by unfold putW; rw [hrun]
  rw [e]
  exact ⟨hrun, mapII_put (_w := w) hD (isMap_of_owns hown) h1, h2⟩
theorem lookW_run {w : World} {m n : Nat} {f : Int → Int} (h : MapII w m n f) (x : Int) (hx : (Lit.int .i64 x).wf = true) :
    (Instr.lookup 59 (.map (some m)) (.int .i64 x) false).run Tryd.prog w = .ok (.int .i64 (f x)) w := by
  obtain ⟨D, hown, hD⟩ := h
  obtain ⟨c, hrun, hat, _⟩ := hown.lookup_int law3 Tryd.underlying59 Tryd.underlying3 (zero3 _) (keyOf_int_mk Tryd.underlying3 hx)
  have : c = f x := lit_inj (hat.symm.trans (hD x hx))
  rw [hrun, this]
end Go.Proofs.YtgmbgclhljobaaaDoor
