/- MeasureMergeMatchesSpec: its walk. -/
import Derived.Test.YtgmbgclhljobaaaDoorRMerge
import Derived.Test.YtgmbgclhljobaaaDoorRMinus
import Derived.Test.YtgmbgclhljobaaaDoorLawOf
namespace Go.Proofs.YtgmbgclhljobaaaDoor
open Go Go.RowKit Go.Proofs Go.Maps

/-- what is told of a histogram or an error, its form written out -/
theorem tells_form {f : Int → Int} {d C b : Int} {A : Option Addr} {n c L : Nat} {W : World} (ht : Tab W.heap.size W) (hC : I64 C)
    (hs : C = 0 → ∃ cs, IsHist f cs ∧ b = d ∧ n = cs.length ∧ Rd W L W.heap.size 2 A cs.length (cells2 cs)) (hn : C ≠ 0 → b = 0 ∧ A = none ∧ n = 0 ∧ c = 0)
    (hd : C = 0 → I64 d) (hf : C = 0 → ∀ cs, IsHist f cs → (∀ c ∈ cs, I64 c.1 ∧ I64 c.2) ∧ cs.length ≤ 100000000) : TellsAs (.agg #[.int .i64 b, .slice A n c]) C (inkOf d f C) W := by
  by_cases h0 : C = 0
  · obtain ⟨cs, hh, rfl, rfl, hr⟩ := hs h0
    obtain ⟨g1, g2⟩ := hf h0 cs hh
    unfold inkOf
    rw [if_pos h0, histOf_eq hh, h0]
    exact tells_of ht ⟨A, c, rfl, hr.more (Nat.zero_le _) (Nat.le_refl _)⟩ (hd h0) (by unfold I64; omega) g1 g2
  · obtain ⟨rfl, rfl, rfl, rfl⟩ := hn h0
    unfold inkOf
    rw [if_neg h0]
    exact tells_none ht hC
theorem codeB_i64 (b1 : Int) (cs1 : List (Int × Int)) (b2 : Int) (cs2 : List (Int × Int)) : I64 (codeB b1 cs1 b2 cs2) := by
  have h1 := codeH_val b1 cs1
  have h2 := codeH_val b2 cs2
  unfold codeB I64
  repeat' split <;> omega
theorem codeG_i64 (b1 : Int) (cs1 : List (Int × Int)) (b2 : Int) (cs2 : List (Int × Int)) : I64 (codeG b1 cs1 b2 cs2) := by
  have h1 := codeB_i64 b1 cs1 b2 cs2
  unfold I64 at *
  unfold codeG codeM
  repeat' split <;> omega
theorem codeN_i64 (b1 : Int) (cs1 : List (Int × Int)) (b2 : Int) (cs2 : List (Int × Int)) : I64 (codeN b1 cs1 b2 cs2) := by
  have h1 := codeB_i64 b1 cs1 b2 cs2
  unfold I64 at *
  unfold codeN
  repeat' split <;> omega
theorem codeG_zero {b1 b2 : Int} {cs1 cs2 : List (Int × Int)} (h : codeG b1 cs1 b2 cs2 = 0) : Good b1 cs1 ∧ Good b2 cs2 ∧ b2 = b1 ∧ tot cs1 + tot cs2 ≤ 1125899906842624 := by
  unfold codeG at h
  by_cases h0 : codeB b1 cs1 b2 cs2 = 0
  · rw [if_neg (by simpa using h0)] at h
    obtain ⟨h1, h2, h3⟩ := codeB_zero h0
    unfold codeM at h
    by_cases h4 : 1125899906842624 < tot cs1 + tot cs2
    · rw [if_pos h4] at h; omega
    · exact ⟨h1, h2, h3, by omega⟩
  · rw [if_pos h0] at h; exact absurd h h0
theorem codeB_good {b : Int} {cs1 cs2 : List (Int × Int)} (h1 : Good b cs1) (h2 : Good b cs2) : codeB b cs1 b cs2 = 0 := by
  unfold codeB
  rw [if_neg (by rw [h1.code]; simp), if_neg (by rw [h2.code]; simp), if_pos rfl]
theorem codeG_good {b : Int} {cs1 cs2 : List (Int × Int)} (h1 : Good b cs1) (h2 : Good b cs2) (ht : tot cs1 + tot cs2 ≤ 1125899906842624) : codeG b cs1 b cs2 = 0 := by
  unfold codeG codeM
  rw [if_neg (by rw [codeB_good h1 h2]; simp), if_neg (by omega)]
theorem codeN_zero {b1 b2 : Int} {cs1 cs2 : List (Int × Int)} (h : codeN b1 cs1 b2 cs2 = 0) : Good b1 cs1 ∧ Good b2 cs2 ∧ b2 = b1 ∧ ∀ c ∈ cs2, c.2 ≤ sumAt id cs1 c.1 := by
  unfold codeN at h
  by_cases h0 : codeB b1 cs1 b2 cs2 = 0
  · rw [if_neg (by simpa using h0)] at h
    obtain ⟨h1, h2, h3⟩ := codeB_zero h0
    by_cases h4 : cs2.any (fun c => decide (sumAt id cs1 c.1 < c.2)) = true
    · rw [if_pos h4] at h; omega
    · refine ⟨h1, h2, h3, fun c hc => ?_⟩
      simp only [List.any_eq_true, not_exists, not_and, decide_eq_true_eq] at h4
      have := h4 c hc
      omega
  · rw [if_pos h0] at h; exact absurd h h0
theorem good_minus {b : Int} {cs1 cs2 cs : List (Int × Int)} (h1 : Good b cs1) (h2 : Good b cs2) (hh : IsHist (miF cs1 cs2) cs) : (∀ c ∈ cs, I64 c.1 ∧ I64 c.2) ∧ cs.length ≤ 100000000 := by
  have hmx := maxB_bd b h1.1 h1.2.1
  have ht1 := h1.2.2.2.2.2
  refine ⟨hist_i64 hh (maxB b) (by omega) (fun x hx => miF_dom h1 h2 hx) (fun x => ?_), ?_⟩
  · have g1 := sumAt_bd id cs1 x (fun c hc => (h1.cells c hc).2)
    have g2 := sumAt_bd id cs2 x (fun c hc => (h2.cells c hc).2)
    unfold miF; omega
  · have := hist_len hh (maxB b) (fun x hx => miF_dom h1 h2 hx)
    omega
theorem good_sum {b1 b2 : Int} {cs1 cs2 : List (Int × Int)} (h : codeG b1 cs1 b2 cs2 = 0) : ∀ cs, IsHist (sumAt id (cs1 ++ cs2)) cs → (∀ c ∈ cs, I64 c.1 ∧ I64 c.2) ∧ cs.length ≤ 100000000 := by
  intro cs hh
  obtain ⟨h1, h2, rfl, h4⟩ := codeG_zero h
  exact hist_tell (good_merge hh h1 h2 h4)
theorem I64_good {b : Int} {cs : List (Int × Int)} (h : Good b cs) : I64 b := by
  have h1 := h.1; have h2 := h.2.1; unfold I64; omega
theorem makesMg {w : World} {b1 b2 : Int} {A1 A2 : Option Addr} {c1 c2 : Nat} {cs1 cs2 : List (Int × Int)} (ht : Tab w.heap.size w) (hr1 : Rd w 0 w.heap.size 2 A1 cs1.length (cells2 cs1)) (hr2 : Rd w 0 w.heap.size 2 A2 cs2.length (cells2 cs2)) (hn1 : cs1.length < 9223372036854775807) (hn2 : cs2.length < 9223372036854775807) : Makes 22 #[.agg #[.int .i64 b1, .slice A1 cs1.length c1], .agg #[.int .i64 b2, .slice A2 cs2.length c2]] (codeG b1 cs1 b2 cs2) (inkOf b1 (sumAt id (cs1 ++ cs2)) (codeG b1 cs1 b2 cs2)) w := by
  refine makes_of ht (codeG_i64 b1 cs1 b2 cs2) (fun h => I64_good (codeG_zero h).1) good_sum (fun w' hb' => ?_)
  exact Merge_any b1 b2 A1 A2 c1 c2 cs1 cs2 w' (hr1.old hb') (hr2.old hb') hn1 hn2
theorem makesRMg {w : World} {b1 b2 : Int} {A1 A2 : Option Addr} {c1 c2 : Nat} {cs1 cs2 : List (Int × Int)} (ht : Tab w.heap.size w) (hr1 : Rd w 0 w.heap.size 2 A1 cs1.length (cells2 cs1)) (hr2 : Rd w 0 w.heap.size 2 A2 cs2.length (cells2 cs2)) (hn1 : cs1.length < 9223372036854775807) (hn2 : cs2.length < 9223372036854775807) (hx1 : ∀ c ∈ cs1, c.1 ≤ 9223372036854775807) (hx2 : ∀ c ∈ cs2, c.1 ≤ 9223372036854775807) : Makes 23 #[.agg #[.int .i64 b1, .slice A1 cs1.length c1], .agg #[.int .i64 b2, .slice A2 cs2.length c2]] (codeG b1 cs1 b2 cs2) (inkOf b1 (sumAt id (cs1 ++ cs2)) (codeG b1 cs1 b2 cs2)) w := by
  refine makes_of ht (codeG_i64 b1 cs1 b2 cs2) (fun h => I64_good (codeG_zero h).1) good_sum (fun w' hb' => ?_)
  exact RMerge_any b1 b2 A1 A2 c1 c2 cs1 cs2 w' (hr1.old hb') (hr2.old hb') hn1 hn2 hx1 hx2
theorem makesMi {w : World} {b1 b2 : Int} {A1 A2 : Option Addr} {c1 c2 : Nat} {cs1 cs2 : List (Int × Int)} (ht : Tab w.heap.size w) (hr1 : Rd w 0 w.heap.size 2 A1 cs1.length (cells2 cs1)) (hr2 : Rd w 0 w.heap.size 2 A2 cs2.length (cells2 cs2)) (hn1 : cs1.length < 9223372036854775807) (hn2 : cs2.length < 9223372036854775807) : Makes 24 #[.agg #[.int .i64 b1, .slice A1 cs1.length c1], .agg #[.int .i64 b2, .slice A2 cs2.length c2]] (codeN b1 cs1 b2 cs2) (inkOf b1 (miF cs1 cs2) (codeN b1 cs1 b2 cs2)) w := by
  refine makes_of ht (codeN_i64 b1 cs1 b2 cs2) (fun h => I64_good (codeN_zero h).1) (fun h cs hh => by obtain ⟨h1, h2, rfl, _⟩ := codeN_zero h; exact good_minus h1 h2 hh) (fun w' hb' => ?_)
  exact Minus_any b1 b2 A1 A2 c1 c2 cs1 cs2 w' (hr1.old hb') (hr2.old hb') hn1 hn2
theorem makesRMi {w : World} {b1 b2 : Int} {A1 A2 : Option Addr} {c1 c2 : Nat} {cs1 cs2 : List (Int × Int)} (ht : Tab w.heap.size w) (hr1 : Rd w 0 w.heap.size 2 A1 cs1.length (cells2 cs1)) (hr2 : Rd w 0 w.heap.size 2 A2 cs2.length (cells2 cs2)) (hn1 : cs1.length < 9223372036854775807) (hn2 : cs2.length < 9223372036854775807) (hx1 : ∀ c ∈ cs1, c.1 ≤ 9223372036854775807) (hx2 : ∀ c ∈ cs2, c.1 ≤ 9223372036854775807) : Makes 25 #[.agg #[.int .i64 b1, .slice A1 cs1.length c1], .agg #[.int .i64 b2, .slice A2 cs2.length c2]] (codeN b1 cs1 b2 cs2) (inkOf b1 (miF cs1 cs2) (codeN b1 cs1 b2 cs2)) w := by
  refine makes_of ht (codeN_i64 b1 cs1 b2 cs2) (fun h => I64_good (codeN_zero h).1) (fun h cs hh => by obtain ⟨h1, h2, rfl, _⟩ := codeN_zero h; exact good_minus h1 h2 hh) (fun w' hb' => ?_)
  exact RMinus_any b1 b2 A1 A2 c1 c2 cs1 cs2 w' (hr1.old hb') (hr2.old hb') hn1 hn2 hx1 hx2

/-- what Merge gives, of two good histograms, whichever order; and what Minus takes back -/
theorem sum_comm (cs1 cs2 : List (Int × Int)) : sumAt id (cs2 ++ cs1) = sumAt id (cs1 ++ cs2) := by
  funext x; rw [sumAt_append, sumAt_append]; omega
theorem minus_back {b : Int} {cs1 cs2 cs : List (Int × Int)} (h1 : Good b cs1) (h2 : Good b cs2) (hh : IsHist (sumAt id (cs1 ++ cs2)) cs) : miF cs cs2 = sumAt id cs1 := by
  have hn : ∀ x, 0 ≤ sumAt id (cs1 ++ cs2) x := fun x => (sumAt_bd id (cs1 ++ cs2) x (fun c hc => (List.mem_append.1 hc).elim (fun h => (h1.cells c h).2) (fun h => (h2.cells c h).2))).1
  funext x
  unfold miF
  rw [hist_back hh hn, sumAt_append]; omega
theorem minus_code {b : Int} {cs1 cs2 cs : List (Int × Int)} (h1 : Good b cs1) (h2 : Good b cs2) (ht : tot cs1 + tot cs2 ≤ 1125899906842624) (hh : IsHist (sumAt id (cs1 ++ cs2)) cs) : codeN b cs b cs2 = 0 := by
  have hg := good_merge hh h1 h2 ht
  refine codeN_good (codeB_good hg h2) (fun c hc => ?_)
  have hn : ∀ x, 0 ≤ sumAt id (cs1 ++ cs2) x := fun x => (sumAt_bd id (cs1 ++ cs2) x (fun c hc => (List.mem_append.1 hc).elim (fun h => (h1.cells c h).2) (fun h => (h2.cells c h).2))).1
  rw [hist_back hh hn, sumAt_append]
  obtain ⟨x, m⟩ := c
  have h3 := (h2.hist.2 x m).1 hc
  have h4 := (sumAt_bd id cs1 x (fun c hc => (h1.cells c hc).2)).1
  simp only; omega

attribute [local go_sem ↓] Go.wp_at_zero Go.wp_at_succ

set_option maxHeartbeats 8000000 in
set_option maxRecDepth 100000 in
theorem law_merge (b1 b2 : Int) (A1 A2 : Option Addr) (c1 c2 : Nat) (cs1 cs2 : List (Int × Int)) (w : World) (ht : Tab w.heap.size w) (hr1 : Rd w 0 w.heap.size 2 A1 cs1.length (cells2 cs1)) (hr2 : Rd w 0 w.heap.size 2 A2 cs2.length (cells2 cs2)) (hn1 : cs1.length < 9223372036854775807) (hn2 : cs2.length < 9223372036854775807)
    (hx1 : ∀ c ∈ cs1, c.1 ≤ 9223372036854775807) (hx2 : ∀ c ∈ cs2, c.1 ≤ 9223372036854775807) :
    Calls Tryd.prog 7 #[.agg #[.int .i64 b1, .slice A1 cs1.length c1], .agg #[.int .i64 b2, .slice A2 cs2.length c2]] w fun e w' => e = .returned (.bool true) ∧ Below w.heap.size w w' := by
  obtain ⟨W0, hW0⟩ : ∃ W0, W0 = ((w).alloc (.cells #[Value.int .i64 b1, Value.slice A1 cs1.length c1] 24)).alloc (.cells #[Value.int .i64 b2, Value.slice A2 cs2.length c2] 24) := ⟨_, rfl⟩
  have st0 : St w W0 [(w.heap.size, Obj.cells #[Value.int .i64 b1, Value.slice A1 cs1.length c1] 24 (0, 0)), (w.heap.size + 1, Obj.cells #[Value.int .i64 b2, Value.slice A2 cs2.length c2] 24 (0, 0))] := by rw [hW0]; exact ((St.start w).alloc _ _ (by simp)).alloc _ _ (by simp)
  have hs0 : W0.heap.size = w.heap.size + 1 + 1 := by rw [hW0]; simp
  have hsz0 : w.heap.size + 1 + 1 ≤ W0.heap.size := by omega
  have HST0 := Lib.hid st0
  have HS0 := Lib.hid hs0
  have HM := Lib.hid ((Merge_any b1 b2 A1 A2 c1 c2 cs1 cs2 W0 (hr1.old st0.below) (hr2.old st0.below) hn1 hn2).mono (fun e w' h => h.form))
  have HT := Lib.hid ht
  have HR1 := Lib.hid hr1
  have HR2 := Lib.hid hr2
  have HX1 := Lib.hid hx1
  have HX2 := Lib.hid hx2
  clear ht hr1 hr2 hx1 hx2
  clear st0 hs0
  go_enter Tryd.func7, Tryd.ntmps7
  go_wp2_with fail
  rw [← hW0]
  clear hW0
  refine HM.out.mono ?_
  rintro e w1 ⟨b3, A3, n3, c3, rfl, hs3, hz3, hb1⟩
  have HS3 := Lib.hid hs3
  have HZ3 := Lib.hid hz3
  clear hs3 hz3
  go_wp2
  obtain ⟨W1, hW1⟩ : ∃ W1, W1 = w1.alloc (.cells #[.int .i64 b3, .slice A3 n3 c3] 24) := ⟨_, rfl⟩
  rw [← hW1]
  have HST1 := Lib.hid (show St w W1 [(w.heap.size, Obj.cells #[Value.int .i64 b1, Value.slice A1 cs1.length c1] 24 (0, 0)), (w.heap.size + 1, Obj.cells #[Value.int .i64 b2, Value.slice A2 cs2.length c2] 24 (0, 0)), (w1.heap.size, Obj.cells #[Value.int .i64 b3, Value.slice A3 n3 c3] 24 (0, 0))] by rw [hW1]; exact (HST0.out.call hb1).alloc _ _ rfl)
  have HB1 := Lib.hid (show Below w1.heap.size w1 W1 by rw [hW1]; exact (Below.refl _ w1).alloc (Nat.le_refl _) _)
  have hsz1 := hb1.size
  have hszW : w1.heap.size + 1 ≤ W1.heap.size := by rw [hW1]; simp
  clear hW1
  have HT1 := Lib.hid (show Tab W1.heap.size W1 from (HT.out.on HST1.out.below).mono HST1.out.below.size)
  have TA := Lib.hid (show TellsAs (.agg #[.int .i64 b3, .slice A3 n3 c3]) (codeG b1 cs1 b2 cs2) (inkOf b1 (sumAt id (cs1 ++ cs2)) (codeG b1 cs1 b2 cs2)) W1 from
    TellsAs.on (tells_form ((HT.out.on ((HST0.out).old (by assumption))).mono (by exact ((HST0.out).old (by assumption)).size)) (codeG_i64 b1 cs1 b2 cs2) HS3.out HZ3.out (fun h => I64_good (codeG_zero h).1) (good_sum)) HB1.out)
  clear hb1
  have HRM := Lib.hid (makesRMg (b1 := b1) (b2 := b2) (c1 := c1) (c2 := c2) HT1.out (HR1.out.old HST1.out.below) (HR2.out.old HST1.out.below) hn1 hn2 HX1.out HX2.out)
  have HMI := Lib.hid (makesMi (b1 := b1) (b2 := b2) (c1 := c1) (c2 := c2) HT1.out (HR1.out.old HST1.out.below) (HR2.out.old HST1.out.below) hn1 hn2)
  have HRMI := Lib.hid (makesRMi (b1 := b1) (b2 := b2) (c1 := c1) (c2 := c2) HT1.out (HR1.out.old HST1.out.below) (HR2.out.old HST1.out.below) hn1 hn2 HX1.out HX2.out)
  have HKS := Lib.hid (show ∀ w', Below W1.heap.size W1 w' → w'.cell? ⟨w.heap.size, 0, none⟩ = some (Value.int .i64 b1) ∧ w'.cell? ⟨w.heap.size, 1, none⟩ = some (Value.slice A1 cs1.length c1) ∧ w'.cell? ⟨w.heap.size + 1, 0, none⟩ = some (Value.int .i64 b2) ∧ w'.cell? ⟨w.heap.size + 1, 1, none⟩ = some (Value.slice A2 cs2.length c2) ∧ w'.cell? ⟨w1.heap.size, 0, none⟩ = some (Value.int .i64 b3) ∧ w'.cell? ⟨w1.heap.size, 1, none⟩ = some (Value.slice A3 n3 c3) ∧ Below W1.heap.size W1 w' from fun w' hb => ⟨(HST1.out.call hb).cell 0 0 rfl rfl, (HST1.out.call hb).cell 0 1 rfl rfl, (HST1.out.call hb).cell 1 0 rfl rfl, (HST1.out.call hb).cell 1 1 rfl rfl, (HST1.out.call hb).cell 2 0 rfl rfl, (HST1.out.call hb).cell 2 1 rfl rfl, hb⟩)
  have k0_0 : W1.cell? ⟨w.heap.size, 0, none⟩ = some (Value.int .i64 b1) := HST1.out.cell 0 0 rfl rfl
  have k0_1 : W1.cell? ⟨w.heap.size, 1, none⟩ = some (Value.slice A1 cs1.length c1) := HST1.out.cell 0 1 rfl rfl
  have l0_ : w.heap.size < W1.heap.size := HST1.out.lt 0 rfl
  have k1_0 : W1.cell? ⟨w.heap.size + 1, 0, none⟩ = some (Value.int .i64 b2) := HST1.out.cell 1 0 rfl rfl
  have k1_1 : W1.cell? ⟨w.heap.size + 1, 1, none⟩ = some (Value.slice A2 cs2.length c2) := HST1.out.cell 1 1 rfl rfl
  have l1_ : w.heap.size + 1 < W1.heap.size := HST1.out.lt 1 rfl
  have k2_0 : W1.cell? ⟨w1.heap.size, 0, none⟩ = some (Value.int .i64 b3) := HST1.out.cell 2 0 rfl rfl
  have k2_1 : W1.cell? ⟨w1.heap.size, 1, none⟩ = some (Value.slice A3 n3 c3) := HST1.out.cell 2 1 rfl rfl
  have l2_ : w1.heap.size < W1.heap.size := HST1.out.lt 2 rfl
  go_region_held3 (fun w' => w'.cell? ⟨w.heap.size, 0, none⟩ = some (Value.int .i64 b1) ∧ w'.cell? ⟨w.heap.size, 1, none⟩ = some (Value.slice A1 cs1.length c1) ∧ w'.cell? ⟨w.heap.size + 1, 0, none⟩ = some (Value.int .i64 b2) ∧ w'.cell? ⟨w.heap.size + 1, 1, none⟩ = some (Value.slice A2 cs2.length c2) ∧ w'.cell? ⟨w1.heap.size, 0, none⟩ = some (Value.int .i64 b3) ∧ w'.cell? ⟨w1.heap.size, 1, none⟩ = some (Value.slice A3 n3 c3) ∧ Below W1.heap.size W1 w')
    (first
      | exact HKS.out _ (Below.refl _ W1).drew
      | (go_split_ands; refine HKS.out _ (below_next ?_ hbG); assumption)
      | (go_split_ands; refine HKS.out _ (below_next ?_ hbF); assumption)
      | (go_split_ands; refine HKS.out _ (below_next ?_ hbE); assumption)
      | (go_split_ands; refine HKS.out _ (below_next ?_ hbD); assumption)
      | (go_split_ands; refine HKS.out _ (below_next ?_ hbC); assumption)
      | (go_split_ands; refine HKS.out _ (below_next ?_ hbB); assumption)
      | (go_split_ands; refine HKS.out _ (below_next ?_ hbA); assumption))
    (first
      | (go_at_call_of 13 (Value.agg #[.int .i64 b3, .slice A3 n3 c3]); refine (TA.out _ ?_).mono ?_; (go_split_ands; assumption); rintro e wA ⟨rfl, hbA⟩)
      | (go_at_call 23; refine (HRM.out _ ?_).mono ?_; (go_split_ands; assumption); rintro e wB ⟨vB, rfl, htB, hbB⟩)
      | (go_at_call_of 13 vB; refine (htB _ ?_).mono ?_; exact Below.refl _ _; rintro e wC ⟨rfl, hbC⟩)
      | (go_at_call 24; refine (HMI.out _ ?_).mono ?_; (go_split_ands; assumption); rintro e wD ⟨vD, rfl, htD, hbD⟩)
      | (go_at_call_of 13 vD; refine (htD _ ?_).mono ?_; exact Below.refl _ _; rintro e wE ⟨rfl, hbE⟩)
      | (go_at_call 25; refine (HRMI.out _ ?_).mono ?_; (go_split_ands; assumption); rintro e wF ⟨vF, rfl, htF, hbF⟩)
      | (go_at_call_of 13 vF; refine (htF _ ?_).mono ?_; exact Below.refl _ _; rintro e wG ⟨rfl, hbG⟩))
  have hbel2 : Below W1.heap.size W1 wG := by go_split_ands; assumption
  have HST2 := Lib.hid (HST1.out.call hbel2)
  have hsz2 := hbel2.size
  clear k0_0 k0_1 l0_ k1_0 k1_1 l1_ k2_0 k2_1 l2_
  have HBEL2 := Lib.hid hbel2
  clear hbel2
  have k0_0 : wG.cell? ⟨w.heap.size, 0, none⟩ = some (Value.int .i64 b1) := HST2.out.cell 0 0 rfl rfl
  have k0_1 : wG.cell? ⟨w.heap.size, 1, none⟩ = some (Value.slice A1 cs1.length c1) := HST2.out.cell 0 1 rfl rfl
  have l0_ : w.heap.size < wG.heap.size := HST2.out.lt 0 rfl
  have k1_0 : wG.cell? ⟨w.heap.size + 1, 0, none⟩ = some (Value.int .i64 b2) := HST2.out.cell 1 0 rfl rfl
  have k1_1 : wG.cell? ⟨w.heap.size + 1, 1, none⟩ = some (Value.slice A2 cs2.length c2) := HST2.out.cell 1 1 rfl rfl
  have l1_ : w.heap.size + 1 < wG.heap.size := HST2.out.lt 1 rfl
  have k2_0 : wG.cell? ⟨w1.heap.size, 0, none⟩ = some (Value.int .i64 b3) := HST2.out.cell 2 0 rfl rfl
  have k2_1 : wG.cell? ⟨w1.heap.size, 1, none⟩ = some (Value.slice A3 n3 c3) := HST2.out.cell 2 1 rfl rfl
  have l2_ : w1.heap.size < wG.heap.size := HST2.out.lt 2 rfl
  clear hbA hbB hbC hbD hbE hbF hbG htB htD htF HKS HRM HMI HRMI
  by_cases h0 : codeG b1 cs1 b2 cs2 = 0
  · have h0' : (codeG b1 cs1 b2 cs2 == 0) = true := by simp [h0]
    obtain ⟨hg1, hg2, hbb, htot⟩ := codeG_zero h0
    subst hbb
    obtain ⟨cs3, hh3, hb3, hn3, hr3⟩ := HS3.out h0
    subst hb3 hn3
    have hg3 := good_merge hh3 hg1 hg2 htot
    have hl3 := hg3.2.2.1
    have hM2 := Merge_any b3 b3 A2 A1 c2 c1 cs2 cs1 wG (HR2.out.old HST2.out.below) (HR1.out.old HST2.out.below) hn2 hn1
    have hc2 := codeG_good hg2 hg1 (by omega)
    rw [hc2, sum_comm] at hM2
    have HM2 := Lib.hid (hM2.mono (fun e w' h => h.form))
    have HG1 := Lib.hid hg1
    have HG2 := Lib.hid hg2
    have HG3 := Lib.hid hg3
    have HH3 := Lib.hid hh3
    have HR3 := Lib.hid (show Rd wG 0 wG.heap.size 2 A3 cs3.length (cells2 cs3) from (((hr3.more (Nat.zero_le _) (Nat.le_refl _)).old HB1.out)).old HBEL2.out)
    have HT2 := Lib.hid (show Tab wG.heap.size wG from (HT1.out.on HBEL2.out).mono HBEL2.out.size)
    have HH0 := Lib.hid h0
    clear h0 hg1 hg2 hg3 hh3 hr3 hM2 hc2
    go_wp2_with fail
    refine HM2.out.mono ?_
    rintro e w4 ⟨b4, A4, n4, c4, rfl, hs4, _, hb4⟩
    obtain ⟨cs4, hh4, e1, e2, hr4⟩ := hs4 (by trivial)
    obtain rfl := IsHist.uniq hh4 HH3.out
    subst e1 e2
    obtain ⟨W4, hW4⟩ : ∃ W4, W4 = w4.alloc (.cells #[.int .i64 b4, .slice A4 cs4.length c4] 24) := ⟨_, rfl⟩
    have hsz4 := hb4.size
    have hszW4 : w4.heap.size + 1 ≤ W4.heap.size := by rw [hW4]; simp
    have HB4 := Lib.hid (show Below wG.heap.size wG W4 by rw [hW4]; exact below_next hb4 ((Below.refl _ w4).alloc (Nat.le_refl _) _))
    have HSTx := Lib.hid (show St w w4 [(w.heap.size, Obj.cells #[Value.int .i64 b4, Value.slice A1 cs1.length c1] 24 (0, 0)), (w.heap.size + 1, Obj.cells #[Value.int .i64 b4, Value.slice A2 cs2.length c2] 24 (0, 0)), (w1.heap.size, Obj.cells #[Value.int .i64 b4, Value.slice A3 cs4.length c3] 24 (0, 0))] from HST2.out.call hb4)
    clear k0_0 k0_1 l0_ k1_0 k1_1 l1_ k2_0 k2_1 l2_
    have k0_0 : w4.cell? ⟨w.heap.size, 0, none⟩ = some (Value.int .i64 b4) := HSTx.out.cell 0 0 rfl rfl
    have k0_1 : w4.cell? ⟨w.heap.size, 1, none⟩ = some (Value.slice A1 cs1.length c1) := HSTx.out.cell 0 1 rfl rfl
    have l0_ : w.heap.size < w4.heap.size := HSTx.out.lt 0 rfl
    have k1_0 : w4.cell? ⟨w.heap.size + 1, 0, none⟩ = some (Value.int .i64 b4) := HSTx.out.cell 1 0 rfl rfl
    have k1_1 : w4.cell? ⟨w.heap.size + 1, 1, none⟩ = some (Value.slice A2 cs2.length c2) := HSTx.out.cell 1 1 rfl rfl
    have l1_ : w.heap.size + 1 < w4.heap.size := HSTx.out.lt 1 rfl
    have k2_0 : w4.cell? ⟨w1.heap.size, 0, none⟩ = some (Value.int .i64 b4) := HSTx.out.cell 2 0 rfl rfl
    have k2_1 : w4.cell? ⟨w1.heap.size, 1, none⟩ = some (Value.slice A3 cs4.length c3) := HSTx.out.cell 2 1 rfl rfl
    have l2_ : w1.heap.size < w4.heap.size := HSTx.out.lt 2 rfl
    have HST4 := Lib.hid (show St w W4 [(w.heap.size, Obj.cells #[Value.int .i64 b4, Value.slice A1 cs1.length c1] 24 (0, 0)), (w.heap.size + 1, Obj.cells #[Value.int .i64 b4, Value.slice A2 cs2.length c2] 24 (0, 0)), (w1.heap.size, Obj.cells #[Value.int .i64 b4, Value.slice A3 cs4.length c3] 24 (0, 0)), (w4.heap.size, Obj.cells #[Value.int .i64 b4, Value.slice A4 cs4.length c4] 24 (0, 0))] by rw [hW4]; exact (HST2.out.call hb4).alloc _ _ rfl)
    have HR4 := Lib.hid (show Rd W4 0 W4.heap.size 2 A4 cs4.length (cells2 cs4) by rw [hW4]; exact (hr4.more (Nat.zero_le _) (Nat.le_refl _)).old ((Below.refl _ w4).alloc (Nat.le_refl _) _))
    have HMB := Lib.hid (Minus_any b4 b4 A3 A2 c3 c2 cs4 cs2 W4 (HR3.out.old HB4.out) (HR2.out.old HST4.out.below) (by omega) hn2)
    have hmb := HMB.out
    rw [minus_code HG1.out HG2.out (by omega) HH3.out, minus_back HG1.out HG2.out HH3.out] at hmb
    have HMB2 := Lib.hid (hmb.mono (fun e w' h => h.form))
    clear hh4 hr4 hs4 hmb hb4
    go_wp2_with fail
    rw [← hW4]
    clear hW4
    refine HMB2.out.mono ?_
    rintro e w5 ⟨b5, A5, n5, c5, rfl, hs5, _, hb5⟩
    obtain ⟨cs5, hh5, e1, e2, hr5⟩ := hs5 (by trivial)
    clear HSTx k0_0 k0_1 l0_ k1_0 k1_1 l1_ k2_0 k2_1 l2_
    obtain rfl := IsHist.uniq hh5 HG1.out.hist
    subst e1 e2
    obtain ⟨W5, hW5⟩ : ∃ W5, W5 = w5.alloc (.cells #[.int .i64 b5, .slice A5 cs5.length c5] 24) := ⟨_, rfl⟩
    have hsz5 := hb5.size
    have HB5 := Lib.hid (show Below W4.heap.size W4 W5 by rw [hW5]; exact below_next hb5 ((Below.refl _ w5).alloc (Nat.le_refl _) _))
    have HST5 := Lib.hid (show St w W5 [(w.heap.size, Obj.cells #[Value.int .i64 b5, Value.slice A1 cs5.length c1] 24 (0, 0)), (w.heap.size + 1, Obj.cells #[Value.int .i64 b5, Value.slice A2 cs2.length c2] 24 (0, 0)), (w1.heap.size, Obj.cells #[Value.int .i64 b5, Value.slice A3 cs4.length c3] 24 (0, 0)), (w4.heap.size, Obj.cells #[Value.int .i64 b5, Value.slice A4 cs4.length c4] 24 (0, 0)), (w5.heap.size, Obj.cells #[Value.int .i64 b5, Value.slice A5 cs5.length c5] 24 (0, 0))] by rw [hW5]; exact (HST4.out.call hb5).alloc _ _ rfl)
    have HR5 := Lib.hid (show Rd W5 0 W5.heap.size 2 A5 cs5.length (cells2 cs5) by rw [hW5]; exact (hr5.more (Nat.zero_le _) (Nat.le_refl _)).old ((Below.refl _ w5).alloc (Nat.le_refl _) _))
    have HT5 := Lib.hid (show Tab W5.heap.size W5 from (HT.out.on HST5.out.below).mono HST5.out.below.size)
    have i0 : I64 0 := by unfold I64; omega
    have TM := Lib.hid (show TellsAs (.agg #[.int .i64 b5, .slice A3 cs4.length c3]) 0 (inkHist b5 cs4 ++ inkInt 0) W5 from tells_of HT5.out ⟨A3, c3, rfl, (HR3.out.old HB4.out).old HB5.out⟩ (I64_good HG3.out) i0 (hist_tell HG3.out).1 (hist_tell HG3.out).2)
    have TN := Lib.hid (show TellsAs (.agg #[.int .i64 b5, .slice A4 cs4.length c4]) 0 (inkHist b5 cs4 ++ inkInt 0) W5 from tells_of HT5.out ⟨A4, c4, rfl, HR4.out.old HB5.out⟩ (I64_good HG3.out) i0 (hist_tell HG3.out).1 (hist_tell HG3.out).2)
    have TB := Lib.hid (show TellsAs (.agg #[.int .i64 b5, .slice A5 cs5.length c5]) 0 (inkHist b5 cs5 ++ inkInt 0) W5 from tells_of HT5.out ⟨A5, c5, rfl, HR5.out⟩ (I64_good HG3.out) i0 (hist_tell HG1.out).1 (hist_tell HG1.out).2)
    have TAA := Lib.hid (show TellsAs (.agg #[.int .i64 b5, .slice A1 cs5.length c1]) 0 (inkHist b5 cs5 ++ inkInt 0) W5 from tells_of HT5.out ⟨A1, c1, rfl, HR1.out.old HST5.out.below⟩ (I64_good HG3.out) i0 (hist_tell HG1.out).1 (hist_tell HG1.out).2)
    clear hh5 hr5 hs5 hb5
    go_wp2
    rw [← hW5]
    clear hW5
    have HKS := Lib.hid (show ∀ w', Below W5.heap.size W5 w' → w'.cell? ⟨w.heap.size, 0, none⟩ = some (Value.int .i64 b5) ∧ w'.cell? ⟨w.heap.size, 1, none⟩ = some (Value.slice A1 cs5.length c1) ∧ w'.cell? ⟨w.heap.size + 1, 0, none⟩ = some (Value.int .i64 b5) ∧ w'.cell? ⟨w.heap.size + 1, 1, none⟩ = some (Value.slice A2 cs2.length c2) ∧ w'.cell? ⟨w1.heap.size, 0, none⟩ = some (Value.int .i64 b5) ∧ w'.cell? ⟨w1.heap.size, 1, none⟩ = some (Value.slice A3 cs4.length c3) ∧ w'.cell? ⟨w4.heap.size, 0, none⟩ = some (Value.int .i64 b5) ∧ w'.cell? ⟨w4.heap.size, 1, none⟩ = some (Value.slice A4 cs4.length c4) ∧ w'.cell? ⟨w5.heap.size, 0, none⟩ = some (Value.int .i64 b5) ∧ w'.cell? ⟨w5.heap.size, 1, none⟩ = some (Value.slice A5 cs5.length c5) ∧ Below W5.heap.size W5 w' from fun w' hb => ⟨(HST5.out.call hb).cell 0 0 rfl rfl, (HST5.out.call hb).cell 0 1 rfl rfl, (HST5.out.call hb).cell 1 0 rfl rfl, (HST5.out.call hb).cell 1 1 rfl rfl, (HST5.out.call hb).cell 2 0 rfl rfl, (HST5.out.call hb).cell 2 1 rfl rfl, (HST5.out.call hb).cell 3 0 rfl rfl, (HST5.out.call hb).cell 3 1 rfl rfl, (HST5.out.call hb).cell 4 0 rfl rfl, (HST5.out.call hb).cell 4 1 rfl rfl, hb⟩)
    have k0_0 : W5.cell? ⟨w.heap.size, 0, none⟩ = some (Value.int .i64 b5) := HST5.out.cell 0 0 rfl rfl
    have k0_1 : W5.cell? ⟨w.heap.size, 1, none⟩ = some (Value.slice A1 cs5.length c1) := HST5.out.cell 0 1 rfl rfl
    have l0_ : w.heap.size < W5.heap.size := HST5.out.lt 0 rfl
    have k1_0 : W5.cell? ⟨w.heap.size + 1, 0, none⟩ = some (Value.int .i64 b5) := HST5.out.cell 1 0 rfl rfl
    have k1_1 : W5.cell? ⟨w.heap.size + 1, 1, none⟩ = some (Value.slice A2 cs2.length c2) := HST5.out.cell 1 1 rfl rfl
    have l1_ : w.heap.size + 1 < W5.heap.size := HST5.out.lt 1 rfl
    have k2_0 : W5.cell? ⟨w1.heap.size, 0, none⟩ = some (Value.int .i64 b5) := HST5.out.cell 2 0 rfl rfl
    have k2_1 : W5.cell? ⟨w1.heap.size, 1, none⟩ = some (Value.slice A3 cs4.length c3) := HST5.out.cell 2 1 rfl rfl
    have l2_ : w1.heap.size < W5.heap.size := HST5.out.lt 2 rfl
    have k3_0 : W5.cell? ⟨w4.heap.size, 0, none⟩ = some (Value.int .i64 b5) := HST5.out.cell 3 0 rfl rfl
    have k3_1 : W5.cell? ⟨w4.heap.size, 1, none⟩ = some (Value.slice A4 cs4.length c4) := HST5.out.cell 3 1 rfl rfl
    have l3_ : w4.heap.size < W5.heap.size := HST5.out.lt 3 rfl
    have k4_0 : W5.cell? ⟨w5.heap.size, 0, none⟩ = some (Value.int .i64 b5) := HST5.out.cell 4 0 rfl rfl
    have k4_1 : W5.cell? ⟨w5.heap.size, 1, none⟩ = some (Value.slice A5 cs5.length c5) := HST5.out.cell 4 1 rfl rfl
    have l4_ : w5.heap.size < W5.heap.size := HST5.out.lt 4 rfl
    go_region_held3 (fun w' => w'.cell? ⟨w.heap.size, 0, none⟩ = some (Value.int .i64 b5) ∧ w'.cell? ⟨w.heap.size, 1, none⟩ = some (Value.slice A1 cs5.length c1) ∧ w'.cell? ⟨w.heap.size + 1, 0, none⟩ = some (Value.int .i64 b5) ∧ w'.cell? ⟨w.heap.size + 1, 1, none⟩ = some (Value.slice A2 cs2.length c2) ∧ w'.cell? ⟨w1.heap.size, 0, none⟩ = some (Value.int .i64 b5) ∧ w'.cell? ⟨w1.heap.size, 1, none⟩ = some (Value.slice A3 cs4.length c3) ∧ w'.cell? ⟨w4.heap.size, 0, none⟩ = some (Value.int .i64 b5) ∧ w'.cell? ⟨w4.heap.size, 1, none⟩ = some (Value.slice A4 cs4.length c4) ∧ w'.cell? ⟨w5.heap.size, 0, none⟩ = some (Value.int .i64 b5) ∧ w'.cell? ⟨w5.heap.size, 1, none⟩ = some (Value.slice A5 cs5.length c5) ∧ Below W5.heap.size W5 w')
      (first
        | exact HKS.out _ (Below.refl _ W5).drew
        | (go_split_ands; refine HKS.out _ (below_next ?_ hbA); assumption)
        | (go_split_ands; refine HKS.out _ (below_next ?_ hbB); assumption)
        | (go_split_ands; refine HKS.out _ (below_next ?_ hbM); assumption)
        | (go_split_ands; refine HKS.out _ (below_next ?_ hbN); assumption))
      (first
        | (go_at_call_of 13 (Value.agg #[.int .i64 b5, .slice A4 cs4.length c4]); refine (TN.out _ ?_).mono ?_; (go_split_ands; assumption); rintro e wN ⟨rfl, hbN⟩)
        | (go_at_call_of 13 (Value.agg #[.int .i64 b5, .slice A3 cs4.length c3]); refine (TM.out _ ?_).mono ?_; (go_split_ands; assumption); rintro e wM ⟨rfl, hbM⟩)
        | (go_at_call_of 13 (Value.agg #[.int .i64 b5, .slice A5 cs5.length c5]); refine (TB.out _ ?_).mono ?_; (go_split_ands; assumption); rintro e wB ⟨rfl, hbB⟩)
        | (go_at_call_of 13 (Value.agg #[.int .i64 b5, .slice A1 cs5.length c1]); refine (TAA.out _ ?_).mono ?_; (go_split_ands; assumption); rintro e wA ⟨rfl, hbA⟩))
    have hbel6 : Below W5.heap.size W5 wA := by go_split_ands; assumption
    have HST6 := Lib.hid (HST5.out.call hbel6)
    have hsz6 := hbel6.size
    clear k0_0 k0_1 l0_ k1_0 k1_1 l1_ k2_0 k2_1 l2_ k3_0 k3_1 l3_ k4_0 k4_1 l4_
    have HBEL6 := Lib.hid hbel6
    clear hbel6
    have k0_0 : wA.cell? ⟨w.heap.size, 0, none⟩ = some (Value.int .i64 b5) := HST6.out.cell 0 0 rfl rfl
    have k0_1 : wA.cell? ⟨w.heap.size, 1, none⟩ = some (Value.slice A1 cs5.length c1) := HST6.out.cell 0 1 rfl rfl
    have l0_ : w.heap.size < wA.heap.size := HST6.out.lt 0 rfl
    have k1_0 : wA.cell? ⟨w.heap.size + 1, 0, none⟩ = some (Value.int .i64 b5) := HST6.out.cell 1 0 rfl rfl
    have k1_1 : wA.cell? ⟨w.heap.size + 1, 1, none⟩ = some (Value.slice A2 cs2.length c2) := HST6.out.cell 1 1 rfl rfl
    have l1_ : w.heap.size + 1 < wA.heap.size := HST6.out.lt 1 rfl
    have k2_0 : wA.cell? ⟨w1.heap.size, 0, none⟩ = some (Value.int .i64 b5) := HST6.out.cell 2 0 rfl rfl
    have k2_1 : wA.cell? ⟨w1.heap.size, 1, none⟩ = some (Value.slice A3 cs4.length c3) := HST6.out.cell 2 1 rfl rfl
    have l2_ : w1.heap.size < wA.heap.size := HST6.out.lt 2 rfl
    have k3_0 : wA.cell? ⟨w4.heap.size, 0, none⟩ = some (Value.int .i64 b5) := HST6.out.cell 3 0 rfl rfl
    have k3_1 : wA.cell? ⟨w4.heap.size, 1, none⟩ = some (Value.slice A4 cs4.length c4) := HST6.out.cell 3 1 rfl rfl
    have l3_ : w4.heap.size < wA.heap.size := HST6.out.lt 3 rfl
    have k4_0 : wA.cell? ⟨w5.heap.size, 0, none⟩ = some (Value.int .i64 b5) := HST6.out.cell 4 0 rfl rfl
    have k4_1 : wA.cell? ⟨w5.heap.size, 1, none⟩ = some (Value.slice A5 cs5.length c5) := HST6.out.cell 4 1 rfl rfl
    have l4_ : w5.heap.size < wA.heap.size := HST6.out.lt 4 rfl
    clear hbA hbB hbM hbN HKS
    go_wp2_with (go_at_call 12; refine (counts_any _).mono ?_; rintro e wK ⟨rfl, hbK⟩)
    go_ret
    exact ⟨rfl, HST6.out.old hbK⟩
  · have h0' : (codeG b1 cs1 b2 cs2 == 0) = false := by simp [h0]
    clear h0
    go_wp2_with (go_at_call 12; refine (counts_any _).mono ?_; rintro e wK ⟨rfl, hbK⟩)
    go_ret
    exact ⟨rfl, HST2.out.old hbK⟩
end Go.Proofs.YtgmbgclhljobaaaDoor
