/- MeasureCoarseMatchesSpec: its walk. -/
import Derived.Test.YtgmbgclhljobaaaDoorRCoarse
import Derived.Test.YtgmbgclhljobaaaDoorTell
import Derived.Deep.RegionHeld3
import Derived.Deep.DrawnRows
namespace Go.Proofs.YtgmbgclhljobaaaDoor
open Go Go.RowKit Go.Proofs Go.Maps

theorem stepH_vals (b : Int) (cs : List (Int × Int)) (j : Nat) : stepH b cs j = 0 ∨ stepH b cs j = 9 ∨ stepH b cs j = 10 := by
  unfold stepH
  by_cases h1 : fineK b (cs.getD j (0, 0)).1 = true
  · rw [if_pos h1]
    by_cases h2 : 0 < j ∧ (cs.getD j (0, 0)).1 ≤ (cs.getD (j - 1) (0, 0)).1
    · rw [if_pos h2]; omega
    · rw [if_neg h2]
      by_cases h3 : (cs.getD j (0, 0)).2 < 1 ∨ 1125899906842624 < (cs.getD j (0, 0)).2
      · rw [if_pos h3]; omega
      · rw [if_neg h3]; omega
  · rw [if_neg h1]; omega
theorem codeH_vals (b : Int) (cs : List (Int × Int)) : codeH b cs = 0 ∨ codeH b cs = 3 ∨ codeH b cs = 9 ∨ codeH b cs = 10 := by
  unfold codeH
  split
  · split
    · rename_i j _; have := stepH_vals b cs j; omega
    · split <;> simp
  · simp
theorem codeC_i64 (b : Int) (cs : List (Int × Int)) (d : Int) : I64 (codeC b cs d) := by
  have := codeH_vals b cs
  unfold codeC I64
  split
  · omega
  · split <;> omega
/-- the bounds of the counts of a coarser histogram -/
theorem coarse_told {b d : Int} {cs : List (Int × Int)} (h : codeC b cs d = 0) : ∀ cs', IsHist (sumAt (cz b d) cs) cs' → (∀ c ∈ cs', I64 c.1 ∧ I64 c.2) ∧ cs'.length ≤ 100000000 := by
  intro cs' hh
  obtain ⟨h1, h2, h3⟩ := codeC_zero h
  obtain ⟨hb, hb', _, hcs, _, ht⟩ := codeH_zero h1
  have hmx := maxB_bd d h2 (by omega)
  have hw : ∀ x, sumAt (cz b d) cs x ≠ 0 → 0 ≤ x ∧ x ≤ maxB d := by
    intro x hx
    obtain ⟨c, hc, e⟩ := sumAt_ne _ _ _ hx
    have := hcs c hc
    have h2 := cz_bd hb hb' h2 (show d ≤ 8 by omega) this.1.1 this.1.2
    rw [e] at h2; exact h2
  refine ⟨hist_i64 hh (maxB d) (by omega) hw (fun x => by have := sumAt_bd (cz b d) cs x (fun c hc => by have := hcs c hc; omega); omega), ?_⟩
  have := hist_len hh (maxB d) hw
  omega
theorem makesC {w : World} {b d : Int} {A : Option Addr} {c : Nat} {cs : List (Int × Int)} (ht : Tab w.heap.size w) (hr : Rd w 0 w.heap.size 2 A cs.length (cells2 cs)) (hn : cs.length < 9223372036854775807) :
    Makes 15 #[.agg #[.int .i64 b, .slice A cs.length c], .int .i64 d] (codeC b cs d) (inkOf d (sumAt (cz b d) cs) (codeC b cs d)) w := by
  refine makes_of ht (codeC_i64 b cs d) (fun h => ?_) coarse_told (fun w' hb' => ?_)
  · have := codeC_zero h
    have := codeH_zero this.1
    obtain ⟨_, _, _⟩ := this
    unfold I64; omega
  · refine (Coarse_any b A c cs d w' ((hr.below hb' (Nat.le_refl _)).more (Nat.le_refl _) hb'.size) hn).mono ?_
    rintro e w'' ⟨v, h1, h2, h3, h4⟩
    exact ⟨v, h1, fun h => by obtain ⟨cs', g1, g2⟩ := h2 h; exact ⟨cs', g1, g2.r⟩, h3, h4⟩
theorem makesRC {w : World} {b d : Int} {A : Option Addr} {c : Nat} {cs : List (Int × Int)} (ht : Tab w.heap.size w) (hr : Rd w 0 w.heap.size 2 A cs.length (cells2 cs)) (hn : cs.length < 9223372036854775807) (hcx : ∀ c ∈ cs, c.1 ≤ 9223372036854775807) :
    Makes 16 #[.agg #[.int .i64 b, .slice A cs.length c], .int .i64 d] (codeC b cs d) (inkOf d (sumAt (cz b d) cs) (codeC b cs d)) w := by
  refine makes_of ht (codeC_i64 b cs d) (fun h => ?_) coarse_told (fun w' hb' => ?_)
  · have := codeC_zero h
    have := codeH_zero this.1
    obtain ⟨_, _, _⟩ := this
    unfold I64; omega
  · exact RCoarse_any b A c cs d w' ((hr.below hb' (Nat.le_refl _)).more (Nat.le_refl _) hb'.size) hn hcx
/-- fewer bits of the histogram of values: the histogram with fewer bits -/
theorem coarse_values {b d : Int} {zs : List Int} {cs : List (Int × Int)} (h : IsHist (cntB b zs) cs) (hb' : b ≤ 8) (hd : 2 ≤ d) (hdb : d ≤ b) (hz : ∀ v ∈ zs, fineV v = true) : sumAt (cz b d) cs = cntB d zs := by
  funext x
  rw [hist_sums h]
  unfold cntB
  congr 1
  apply List.countP_congr
  intro v hv
  have := hz v hv
  simp [fineV] at this
  unfold cz
  rw [bkt_bkt b d v hb' hd hdb this.1 (by omega)]

/-- what Of returns, its form written out -/
def OfPost (b : Int) (n : Nat) (zs : List Int) (w : World) (e : Ending) (w' : World) : Prop :=
  ∃ b1 A1 n1 c1, e = .returned (.tuple #[.agg #[.int .i64 b1, .slice A1 n1 c1], .int .i64 (codeV b n zs)]) ∧
    (codeV b n zs = 0 → ∃ cs, IsHist (cntB b zs) cs ∧ b1 = b ∧ n1 = cs.length ∧ Rd w' w.heap.size w'.heap.size 2 A1 n1 (cells2 cs)) ∧ Below w.heap.size w w'
theorem of_form {b : Int} {n : Nat} {zs : List Int} {w : World} {e : Ending} {w' : World}
    (h : ∃ v, e = .returned (.tuple #[v, .int .i64 (codeV b n zs)]) ∧ (codeV b n zs = 0 → ∃ cs, IsHist (cntB b zs) cs ∧ HistV w' w.heap.size v b cs ∧ cs.length ≤ n) ∧ (codeV b n zs ≠ 0 → v = .agg #[.int .i64 0, .slice none 0 0]) ∧ Below w.heap.size w w') :
    OfPost b n zs w e w' := by
  obtain ⟨v, rfl, h1, h2, h3⟩ := h
  by_cases h0 : codeV b n zs = 0
  · obtain ⟨cs, g1, ⟨A, c, rfl, _, _, _, g2⟩, _⟩ := h1 h0
    exact ⟨b, A, cs.length, c, rfl, fun _ => ⟨cs, g1, rfl, rfl, g2⟩, h3⟩
  · obtain rfl := h2 h0
    exact ⟨0, none, 0, 0, rfl, fun h => absurd h h0, h3⟩

attribute [local go_sem ↓] Go.wp_at_zero Go.wp_at_succ

set_option maxHeartbeats 4000000 in
set_option maxRecDepth 100000 in
theorem law_coarse (b d m : Int) (Ah A : Option Addr) (ch n c : Nat) (cs : List (Int × Int)) (zs : List Int) (w : World) (ht : Tab w.heap.size w) (hh : Rd w 0 w.heap.size 2 Ah cs.length (cells2 cs)) (hl : cs.length < 9223372036854775807) (hcx : ∀ c ∈ cs, c.1 ≤ 9223372036854775807)
    (hr : Rd w 0 w.heap.size 1 A n (ints zs)) (hn : n < 9223372036854775807) :
    Calls Tryd.prog 4 #[.agg #[.int .i64 b, .slice Ah cs.length ch], .int .i64 d, .slice A n c, .int .i64 m] w fun e w' => e = .returned (.bool true) ∧ Below w.heap.size w w' := by
  obtain ⟨W1, hW1⟩ : ∃ W1, W1 = w.alloc (.cells #[.int .i64 b, .slice Ah cs.length ch] 24) := ⟨_, rfl⟩
  have hs1 : W1.heap.size = w.heap.size + 1 := by rw [hW1]; simp
  have hb1 : Below w.heap.size w W1 := by rw [hW1]; exact (Below.refl _ w).alloc (Nat.le_refl _) _
  have hx1 : W1.heap[w.heap.size]? = some (.cells #[.int .i64 b, .slice Ah cs.length ch] 24 (0, 0)) := by rw [hW1]; exact alloc_at _ _ _ rfl
  have ht1 : Tab W1.heap.size W1 := (ht.on hb1).mono hb1.size
  have HC := Lib.hid (makesC (b := b) (d := d) (c := ch) ht1 ((hh.below hb1 (Nat.le_refl _)).more (Nat.le_refl _) hb1.size) hl)
  have HRC := Lib.hid (makesRC (b := b) (d := d) (c := ch) ht1 ((hh.below hb1 (Nat.le_refl _)).more (Nat.le_refl _) hb1.size) hl hcx)
  have c0 : W1.cell? ⟨w.heap.size, 0, none⟩ = some (.int .i64 b) := by rw [cellsAt hx1]; rfl
  have c1 : W1.cell? ⟨w.heap.size, 1, none⟩ = some (.slice Ah cs.length ch) := by rw [cellsAt hx1]; rfl
  have KS : ∀ w', Below W1.heap.size W1 w' → w'.cell? ⟨w.heap.size, 0, none⟩ = some (.int .i64 b) ∧ w'.cell? ⟨w.heap.size, 1, none⟩ = some (.slice Ah cs.length ch) ∧ Below W1.heap.size W1 w' := by
    intro w' hb
    have hx := (hb.block _ (show w.heap.size < W1.heap.size by omega)).trans hx1
    exact ⟨by rw [cellsAt hx]; rfl, by rw [cellsAt hx]; rfl, hb⟩
  have HKS := Lib.hid KS
  have HT := Lib.hid ht1
  have HR := Lib.hid (hr.below hb1 (Nat.le_refl _))
  have HS1 := Lib.hid hs1
  have HB1 := Lib.hid hb1
  clear ht hh hcx hr hs1 hb1 hx1 ht1 KS
  go_enter Tryd.func4, Tryd.ntmps4
  go_wp2_with fail
  rw [← hW1]
  clear hW1
  go_region_held3 (fun w' => w'.cell? ⟨w.heap.size, 0, none⟩ = some (.int .i64 b) ∧ w'.cell? ⟨w.heap.size, 1, none⟩ = some (.slice Ah cs.length ch) ∧ Below W1.heap.size W1 w')
    (first
      | exact HKS.out _ (Below.refl _ W1).drew
      | (go_split_ands; refine HKS.out _ (bel_next ?_ hbA); assumption)
      | (go_split_ands; refine HKS.out _ (bel_next ?_ hbB); assumption)
      | (go_split_ands; refine HKS.out _ (bel_next ?_ hbC); assumption)
      | (go_split_ands; refine HKS.out _ (bel_next ?_ hbD); assumption))
    (first
      | (go_at_call 15; refine (HC.out _ ?_).mono ?_; (go_split_ands; assumption); rintro e wA ⟨vA, rfl, htA, hbA⟩)
      | (go_at_call 16; refine (HRC.out _ ?_).mono ?_; (go_split_ands; assumption); rintro e wB ⟨vB, rfl, htB, hbB⟩)
      | (go_at_call_of 13 vA; refine (htA _ ?_).mono ?_; (first | exact Below.refl _ _ | exact hbB | exact bel_next hbB hbD); rintro e wC ⟨rfl, hbC⟩)
      | (go_at_call_of 13 vB; refine (htB _ ?_).mono ?_; (first | exact Below.refl _ _ | exact hbA | exact bel_next hbA hbC); rintro e wD ⟨rfl, hbD⟩))
  have hBD := (HKS.out wD (by go_split_ands; assumption)).2.2
  have hrD := (HR.out.below hBD (by have := HS1.out; omega)).more (Nat.le_refl _) (show w.heap.size ≤ wD.heap.size by have := hBD.size; have := HS1.out; omega)
  have HBD := Lib.hid hBD
  have HO1 := Lib.hid ((Of_any m A n c zs wD hrD hn).mono (fun e w' h => of_form h))
  have HRD := Lib.hid hrD
  have hsD := hBD.size
  clear hrD htA hbA hbC htB hbB hbD c0 c1
  clear hBD
  go_wp2_with fail
  refine HO1.out.mono ?_
  rintro e wE ⟨b1, A1, n1, c1, rfl, hv1, hbE⟩
  have hsE := hbE.size
  have hrE := ((HRD.out.below hbE (Nat.le_refl _)).alloc (show wD.heap.size ≤ wE.heap.size by omega) (.cells #[.int .i64 b1, .slice A1 n1 c1] 24)).more (Nat.le_refl _) (show wD.heap.size ≤ (wE.alloc (.cells #[.int .i64 b1, .slice A1 n1 c1] 24)).heap.size by simp; omega)
  have HO2 := Lib.hid ((Of_any d A n c zs _ hrE hn).mono (fun e w' h => of_form h))
  have HV1 := Lib.hid hv1
  have HBE := Lib.hid hbE
  clear hrE hv1 hbE
  go_wp2_with fail
  refine HO2.out.mono ?_
  rintro e wF ⟨b2, A2, n2, c2, rfl, hv2, hbF⟩
  have hsF : wE.heap.size + 1 ≤ wF.heap.size := by have := hbF.size; simpa using this
  have hbEF : Below wE.heap.size wE wF := ((Below.refl _ wE).alloc (Nat.le_refl _) _).trans (hbF.mono (by simp))
  have hx1 : wF.heap[wE.heap.size]? = some (.cells #[.int .i64 b1, .slice A1 n1 c1] 24 (0, 0)) := (hbF.block _ (by simp)).trans (alloc_at _ _ _ rfl)
  have hbW : Below w.heap.size w wF := HB1.out.trans ((HBD.out.mono (by have := HS1.out; omega)).trans ((HBE.out.mono (by have := HS1.out; omega)).trans (hbEF.mono (by have := HS1.out; omega))))
  have hbT : Below W1.heap.size W1 wF := bel_next (bel_next HBD.out HBE.out) hbEF
  have e0 : wF.cell? ⟨wE.heap.size, 0, none⟩ = some (.int .i64 b1) := by rw [cellsAt hx1]; rfl
  have e1 : wF.cell? ⟨wE.heap.size, 1, none⟩ = some (.slice A1 n1 c1) := by rw [cellsAt hx1]; rfl
  have hlF : wE.heap.size < wF.heap.size := by omega
  have HV2 := Lib.hid hv2
  have HBF := Lib.hid hbF
  have HBW := Lib.hid hbW
  have HBT := Lib.hid hbT
  have HBEF := Lib.hid hbEF
  have hw : w.heap.size ≤ wF.heap.size := hbW.size
  clear hv2 hbF hbW hbT hbEF hx1
  have fin : ∀ W, Below wF.heap.size wF W → Below w.heap.size w W := fun W h => HBW.out.trans (h.mono hw)
  have FIN := Lib.hid fin
  clear fin
  by_cases hc1 : codeV m n zs = 0
  · have hc1' : (codeV m n zs == 0) = true := by simp [hc1]
    by_cases hc2 : codeV d n zs = 0
    · have hc2' : (codeV d n zs == 0) = true := by simp [hc2]
      by_cases hdm : d ≤ m
      · have hdm' : decide (d ≤ m) = true := by simpa using hdm
        obtain ⟨cs1, hh1, hbb1, hnn1, hr1⟩ := HV1.out hc1
        obtain ⟨cs2, hh2, hbb2, hnn2, hr2⟩ := HV2.out hc2
        subst b1 n1 b2 n2
        obtain ⟨hm2, hm8, hnn, hz⟩ := codeV_zero hc1
        obtain ⟨hd2, hd8, _, _⟩ := codeV_zero hc2
        have hzl : zs.length = n := by have := HRD.out.1; simpa [ints] using this
        have hgood := good_of_values hh1 hm2 hm8 hz (by omega)
        have hcode : codeC m cs1 d = 0 := by unfold codeC; rw [if_neg (by rw [hgood.code]; simp), if_neg (by omega)]
        have hr1' : Rd (wF.alloc (.cells #[.int .i64 d, .slice A2 cs2.length c2] 24)) 0 (wF.alloc (.cells #[.int .i64 d, .slice A2 cs2.length c2] 24)).heap.size 2 A1 cs1.length (cells2 cs1) :=
          ((hr1.below HBEF.out (Nat.le_refl _)).alloc (by omega) _).more (Nat.zero_le _) (by simp; omega)
        have hCo := Coarse_any m A1 c1 cs1 d _ hr1' (by have := hgood.2.2.1; omega)
        rw [hcode] at hCo
        have HCO := Lib.hid hCo
        have HH1 := Lib.hid hh1
        have HH2 := Lib.hid hh2
        have HZ := Lib.hid hz
        have htold2 := hist_told hh2 hd2 hd8 hz (by omega)
        have HT2 := Lib.hid htold2
        have htF : Tab wF.heap.size wF := (HT.out.on HBT.out).mono HBT.out.size
        have tells2 : TellsAs (.agg #[.int .i64 d, .slice A2 cs2.length c2]) 0 (inkHist d cs2 ++ inkInt 0) wF := tells_of htF ⟨A2, c2, rfl, hr2.more (Nat.zero_le _) (Nat.le_refl _)⟩ htold2.2.2 (by unfold I64; omega) htold2.1 (by have := htold2.2.1; omega)
        have HTE2 := Lib.hid tells2
        have HTF := Lib.hid htF
        clear hc1 hc2 hh1 hr1 hr2 hh2 hz hzl hgood hcode hr1' hCo htold2 htF tells2
        go_wp2_with fail
        refine HCO.out.mono ?_
        rintro e wG ⟨v, rfl, hv3, _, hbG⟩
        obtain ⟨cs3, hh3, A3, c3, rfl, _, _, _, hr3⟩ := hv3 trivial
        have hsG : wF.heap.size + 1 ≤ wG.heap.size := by have := hbG.size; simpa using this
        have hbFG : Below wF.heap.size wF wG := ((Below.refl _ wF).alloc (Nat.le_refl _) _).trans (hbG.mono (by simp))
        have heq : cs3 = cs2 := IsHist.uniq hh3 (by rw [coarse_values HH1.out hm8 hd2 hdm HZ.out]; exact HH2.out)
        subst cs3
        have htG : Tab wG.heap.size wG := (HTF.out.on hbFG).mono hbFG.size
        have tells3 : TellsAs (.agg #[.int .i64 d, .slice A3 cs2.length c3]) 0 (inkHist d cs2 ++ inkInt 0) wG := tells_of htG ⟨A3, c3, rfl, hr3.more (Nat.zero_le _) (Nat.le_refl _)⟩ HT2.out.2.2 (by unfold I64; omega) HT2.out.1 (by have := HT2.out.2.1; omega)
        have hx2 : wG.heap[wF.heap.size]? = some (.cells #[.int .i64 d, .slice A2 cs2.length c2] 24 (0, 0)) := (hbG.block _ (by simp)).trans (alloc_at _ _ _ rfl)
        obtain ⟨W4, hW4⟩ : ∃ W4, W4 = wG.alloc (.cells #[.int .i64 d, .slice A3 cs2.length c3] 24) := ⟨_, rfl⟩
        have hs4 : W4.heap.size = wG.heap.size + 1 := by rw [hW4]; simp
        have hb4 : Below wG.heap.size wG W4 := by rw [hW4]; exact (Below.refl _ wG).alloc (Nat.le_refl _) _
        have hx3 : W4.heap[wG.heap.size]? = some (.cells #[.int .i64 d, .slice A3 cs2.length c3] 24 (0, 0)) := by rw [hW4]; exact alloc_at _ _ _ rfl
        have hx2' := (hb4.block _ (show wF.heap.size < wG.heap.size by omega)).trans hx2
        have T3 := Lib.hid (tells3.on hb4)
        have T2 := Lib.hid (HTE2.out.on (bel_next hbFG hb4))
        have KS4 : ∀ w', Below W4.heap.size W4 w' → w'.cell? ⟨wG.heap.size, 0, none⟩ = some (.int .i64 d) ∧ w'.cell? ⟨wG.heap.size, 1, none⟩ = some (.slice A3 cs2.length c3) ∧ w'.cell? ⟨wF.heap.size, 0, none⟩ = some (.int .i64 d) ∧ w'.cell? ⟨wF.heap.size, 1, none⟩ = some (.slice A2 cs2.length c2) ∧ Below W4.heap.size W4 w' := by
          intro w' hb
          have g3 := (hb.block _ (show wG.heap.size < W4.heap.size by omega)).trans hx3
          have g2 := (hb.block _ (show wF.heap.size < W4.heap.size by omega)).trans hx2'
          exact ⟨by rw [cellsAt g3]; rfl, by rw [cellsAt g3]; rfl, by rw [cellsAt g2]; rfl, by rw [cellsAt g2]; rfl, hb⟩
        have HKS4 := Lib.hid KS4
        have HF4 := Lib.hid (bel_next hbFG hb4)
        clear hv3 hh3 hr3 htG tells3 hx2 hx3 hx2' KS4 hbG hbFG hb4 hs4 e0 e1
        go_wp2_with fail
        rw [← hW4]
        clear hW4
        go_region_held3 (fun w' => w'.cell? ⟨wG.heap.size, 0, none⟩ = some (.int .i64 d) ∧ w'.cell? ⟨wG.heap.size, 1, none⟩ = some (.slice A3 cs2.length c3) ∧ w'.cell? ⟨wF.heap.size, 0, none⟩ = some (.int .i64 d) ∧ w'.cell? ⟨wF.heap.size, 1, none⟩ = some (.slice A2 cs2.length c2) ∧ Below W4.heap.size W4 w')
          (first
            | exact HKS4.out _ (Below.refl _ W4).drew
            | (go_split_ands; refine HKS4.out _ (bel_next ?_ hbA); assumption)
            | (go_split_ands; refine HKS4.out _ (bel_next ?_ hbB); assumption))
          (first
            | (go_at_call_of 13 (Value.agg #[.int .i64 d, .slice A3 cs2.length c3]); refine (T3.out _ ?_).mono ?_; (go_split_ands; assumption); rintro e wA2 ⟨rfl, hbA⟩)
            | (go_at_call_of 13 (Value.agg #[.int .i64 d, .slice A2 cs2.length c2]); refine (T2.out _ ?_).mono ?_; (go_split_ands; assumption); rintro e wB2 ⟨rfl, hbB⟩))
        have hB2 := (HKS4.out wB2 (by go_split_ands; assumption)).2.2.2.2
        clear hbA hbB
        go_wp2_with fail
        refine (counts_any _).mono ?_
        rintro e w' ⟨rfl, hb⟩
        go_wp2
        go_ret
        exact ⟨rfl, FIN.out _ (bel_next (bel_next HF4.out hB2) hb)⟩
      · have hdm' : decide (d ≤ m) = false := by simpa using hdm
        clear hc1 hc2
        go_wp2_with fail
        refine (counts_any _).mono ?_
        rintro e w' ⟨rfl, hb⟩
        go_wp2
        go_ret
        exact ⟨rfl, FIN.out _ (((Below.refl _ wF).alloc (Nat.le_refl _) _).trans (hb.mono (by simp)))⟩
    · have hc2' : (codeV d n zs == 0) = false := by simp [hc2]
      clear hc1 hc2
      go_wp2_with fail
      refine (counts_any _).mono ?_
      rintro e w' ⟨rfl, hb⟩
      go_wp2
      go_ret
      exact ⟨rfl, FIN.out _ (((Below.refl _ wF).alloc (Nat.le_refl _) _).trans (hb.mono (by simp)))⟩
  · have hc1' : (codeV m n zs == 0) = false := by simp [hc1]
    clear hc1
    go_wp2_with fail
    refine (counts_any _).mono ?_
    rintro e w' ⟨rfl, hb⟩
    go_wp2
    go_ret
    exact ⟨rfl, FIN.out _ (((Below.refl _ wF).alloc (Nat.le_refl _) _).trans (hb.mono (by simp)))⟩
end Go.Proofs.YtgmbgclhljobaaaDoor
