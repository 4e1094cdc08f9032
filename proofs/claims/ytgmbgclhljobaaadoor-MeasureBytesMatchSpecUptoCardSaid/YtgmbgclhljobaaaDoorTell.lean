/- What 'told' says of a value, whatever is laid behind it; functions that make such values. -/
import Derived.Test.YtgmbgclhljobaaaDoorLawStall
import Derived.Test.YtgmbgclhljobaaaDoorSum
namespace Go.Proofs.YtgmbgclhljobaaaDoor
open Go Go.RowKit Go.Proofs Go.Maps

theorem bel_next {W X Y : World} (h1 : Below W.heap.size W X) (h2 : Below X.heap.size X Y) : Below W.heap.size W Y := h1.trans (h2.mono h1.size)
/-- the list of a histogram -/
noncomputable def histOf (f : Int → Int) : List (Int × Int) := open Classical in if h : ∃ cs, IsHist f cs then h.choose else []
theorem histOf_eq {f : Int → Int} {cs : List (Int × Int)} (h : IsHist f cs) : histOf f = cs := by
  unfold histOf
  rw [dif_pos ⟨cs, h⟩]
  exact IsHist.uniq (Exists.choose_spec (⟨cs, h⟩ : ∃ cs, IsHist f cs)) h
/-- the value v with this error is told as s, in this world and whatever is laid behind it -/
def TellsAs (v : Value) (code : Int) (s : List UInt8) (w : World) : Prop :=
  ∀ w', Below w.heap.size w w' → Calls Tryd.prog 13 #[v, .int .i64 code] w' fun r w'' => r = .returned (.string ⟨s.toArray⟩) ∧ Below w'.heap.size w' w''
theorem TellsAs.on {v : Value} {code : Int} {s : List UInt8} {w w1 : World} (h : TellsAs v code s w) (hb : Below w.heap.size w w1) : TellsAs v code s w1 := fun w' h' => h w' (bel_next hb h')
theorem tells_of {w : World} {v : Value} {b code : Int} {cs : List (Int × Int)} (ht : Tab w.heap.size w) (hv : HistB w w.heap.size v b cs) (hb : I64 b) (he : I64 code) (hcs : ∀ c ∈ cs, I64 c.1 ∧ I64 c.2) (hn : cs.length ≤ 100000000) : TellsAs v code (inkHist b cs ++ inkInt code) w :=
  fun _ h' => told_any v b code cs _ ((ht.on h').mono h'.size) (hv.below h' (Nat.le_refl _) h'.size) hb he hcs hn
theorem tells_none {w : World} {code : Int} (ht : Tab w.heap.size w) (he : I64 code) : TellsAs (.agg #[.int .i64 0, .slice none 0 0]) code (inkHist 0 [] ++ inkInt code) w :=
  tells_of ht ⟨none, 0, rfl, Rd.nil⟩ (by unfold I64; omega) he (fun _ h => by cases h) (by simp)
/-- the function F makes of these arguments a value that is told as s -/
def Makes (F : FuncId) (args : Array Value) (code : Int) (s : List UInt8) (w : World) : Prop :=
  ∀ w', Below w.heap.size w w' → Calls Tryd.prog F args w' fun e w'' => ∃ v, e = .returned (.tuple #[v, .int .i64 code]) ∧ TellsAs v code s w'' ∧ Below w'.heap.size w' w''
/-- what is told of a histogram that is there if the error is none -/
noncomputable def inkOf (b : Int) (f : Int → Int) (code : Int) : List UInt8 := if code = 0 then inkHist b (histOf f) ++ inkInt 0 else inkHist 0 [] ++ inkInt code
theorem makes_of {F : FuncId} {args : Array Value} {code b : Int} {f : Int → Int} {w : World} (ht : Tab w.heap.size w) (hc : I64 code) (hb : code = 0 → I64 b)
    (hf : code = 0 → ∀ cs, IsHist f cs → (∀ c ∈ cs, I64 c.1 ∧ I64 c.2) ∧ cs.length ≤ 100000000)
    (h : ∀ w', Below w.heap.size w w' → Calls Tryd.prog F args w' fun e w'' => ∃ v, e = .returned (.tuple #[v, .int .i64 code]) ∧ (code = 0 → ∃ cs, IsHist f cs ∧ HistR w'' w'.heap.size v b cs) ∧ (code ≠ 0 → v = .agg #[.int .i64 0, .slice none 0 0]) ∧ Below w'.heap.size w' w'') :
    Makes F args code (inkOf b f code) w := by
  intro w' hb'
  refine (h w' hb').mono ?_
  rintro e w'' ⟨v, rfl, h1, h2, h3⟩
  refine ⟨v, rfl, ?_, h3⟩
  have ht'' : Tab w''.heap.size w'' := (ht.on (bel_next hb' h3)).mono (bel_next hb' h3).size
  by_cases h0 : code = 0
  · obtain ⟨cs, hh, hv⟩ := h1 h0
    obtain ⟨g1, g2⟩ := hf h0 cs hh
    unfold inkOf
    rw [if_pos h0, histOf_eq hh, h0]
    exact tells_of ht'' (hv.b (Nat.le_refl _)) (hb h0) (by unfold I64; omega) g1 g2
  · obtain rfl := h2 h0
    unfold inkOf
    rw [if_neg h0]
    exact tells_none ht'' hc
theorem sumAt_moreR (g : Int → Int) (k n : Int) (x : Int) : ∀ cs : List (Int × Int), sumAt g (moreR k n cs) x = sumAt g cs x + if g k = x then n else 0
  | [] => by simp [moreR, sumAt]
  | c :: r => by
    unfold moreR
    split
    · split
      · rename_i e
        subst e
        simp only [sumAt, List.map_cons, List.sum_cons]
        split <;> omega
      · simp only [sumAt, List.map_cons, List.sum_cons]; omega
    · have ih := sumAt_moreR g k n x r
      simp only [sumAt, List.map_cons, List.sum_cons] at *
      omega
theorem sumAt_more (g : Int → Int) (k n : Int) (x : Int) (cs : List (Int × Int)) : sumAt g (moreL k n cs) x = sumAt g cs x + if g k = x then n else 0 := by
  rw [moreL_eq]
  by_cases h : n = 0
  · subst h; simp
  · rw [if_neg h, sumAt_moreR]
/-- the histogram of values, and what its counts add up to -/
theorem hist_sum (b : Int) (l : List Int) : ∃ cs, IsHist (cntB b l.reverse) cs ∧ ∀ g x, sumAt g cs x = l.reverse.countP (fun v => g (bkt b v) == x) := by
  induction l with
  | nil => exact ⟨[], ⟨List.Pairwise.nil, fun x n => by simp [cntB]; omega⟩, fun g x => by simp [sumAt]⟩
  | cons v l ih =>
    obtain ⟨cs, h1, h2⟩ := ih
    refine ⟨moreL (bkt b v) 1 cs, ?_, fun g x => ?_⟩
    · rw [List.reverse_cons, ← cntB_snoc]
      exact more_hist h1 (fun x => (cntB_bd b _ x).1) (bkt b v) 1 (by omega)
    · rw [sumAt_more, h2, List.reverse_cons, List.countP_append]
      by_cases h : g (bkt b v) = x
      · simp [h]
      · simp [h]
theorem hist_sums {b : Int} {zs : List Int} {cs : List (Int × Int)} (h : IsHist (cntB b zs) cs) (g : Int → Int) (x : Int) : sumAt g cs x = zs.countP (fun v => g (bkt b v) == x) := by
  obtain ⟨cs', h1, h2⟩ := hist_sum b zs.reverse
  rw [List.reverse_reverse] at h1 h2
  rw [IsHist.uniq h h1]
  exact h2 g x
theorem tot_le (cs : List (Int × Int)) (M : Nat) (h : ∀ c ∈ cs, c.2 ≤ M) : tot cs ≤ cs.length * M := by
  induction cs with
  | nil => simp [tot]
  | cons c cs ih =>
    have := ih (fun d hd => h d (by simp [hd]))
    have := h c (by simp)
    simp only [tot, List.map_cons, List.sum_cons, List.length_cons] at *
    rw [Int.natCast_add, Int.add_mul]; omega
/-- what has these properties passes Check -/
theorem Good.code {b : Int} {cs : List (Int × Int)} (h : Good b cs) : codeH b cs = 0 := by
  obtain ⟨hb, hb', _, h4, h5, h6⟩ := h
  have hfb : fineB b = true := by simp [fineB]; omega
  rw [codeH_end hfb]
  · rw [if_neg (by omega)]
  · intro j hj
    have hm := h4 cs[j] (List.getElem_mem hj)
    have hx : cs[j]? = some (cs[j].1, cs[j].2) := List.getElem?_eq_getElem hj
    have hfk : fineK b cs[j].1 = true := by simp [fineK]; omega
    rw [step_num hx hfk ?_, if_neg (by omega)]
    rcases Nat.eq_zero_or_pos j with h0 | h0
    · exact .inl h0
    · right
      refine ⟨cs[j - 1].1, cs[j - 1].2, List.getElem?_eq_getElem (by omega), ?_⟩
      rw [List.pairwise_iff_getElem] at h5
      exact h5 (j - 1) j (by omega) hj (by omega)
theorem good_of_values {b : Int} {zs : List Int} {cs : List (Int × Int)} (h : IsHist (cntB b zs) cs) (hb : 2 ≤ b) (hb' : b ≤ 8) (hz : ∀ v ∈ zs, fineV v = true) (hl : zs.length ≤ 1000000) : Good b cs := by
  have hmx := maxB_bd b hb hb'
  have hlen := hist_len h (maxB b) (fun x hx => cntB_wf b zs x hb hb' hz hx)
  have hc : ∀ c ∈ cs, (0 ≤ c.1 ∧ c.1 ≤ maxB b) ∧ 1 ≤ c.2 ∧ c.2 ≤ 1000000 := by
    intro c hc
    obtain ⟨x, n⟩ := c
    have h1 := (h.2 x n).1 hc
    have h2 := cntB_wf b zs x hb hb' hz (by omega)
    have h3 := cntB_bd b zs x
    simp only; omega
  have ht := tot_le cs 1000000 (fun c hc' => (hc c hc').2.2)
  refine ⟨hb, hb', by omega, fun c hc' => ?_, h.1, ?_⟩
  · have := hc c hc'; omega
  · have : (cs.length : Int) * ((1000000 : Nat) : Int) ≤ 6001 * 1000000 := by omega
    omega
end Go.Proofs.YtgmbgclhljobaaaDoor
