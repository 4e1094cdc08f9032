/- MeasureExpectedIsAStall: its walk. -/
import Derived.Test.YtgmbgclhljobaaaDoorExp
import Derived.Test.YtgmbgclhljobaaaDoorROf
import Derived.Test.YtgmbgclhljobaaaDoorInk
import Derived.Test.YtgmbgclhljobaaaDoorCounts
namespace Go.Proofs.YtgmbgclhljobaaaDoor
open Go Go.RowKit Go.Proofs Go.Maps

theorem hist_i64 {f : Int → Int} {cs : List (Int × Int)} (h : IsHist f cs) (m : Int) (hm : m ≤ 100000) (hf : ∀ x, f x ≠ 0 → 0 ≤ x ∧ x ≤ m) (hf2 : ∀ x, f x ≤ 1125899906842624 * 2) : ∀ c ∈ cs, I64 c.1 ∧ I64 c.2 := by
  intro c hc
  obtain ⟨x, n⟩ := c
  have h1 := (h.2 x n).1 hc
  have h2 := hf x (by omega)
  have h3 := hf2 x
  simp only [I64]; omega
/-- the facts that 'told' asks of the histogram of values -/
theorem hist_told {b : Int} {zs : List Int} {cs : List (Int × Int)} (h : IsHist (cntB b zs) cs) (hb : 2 ≤ b) (hb' : b ≤ 8) (hz : ∀ v ∈ zs, fineV v = true) (hl : zs.length ≤ 10000000) : (∀ c ∈ cs, I64 c.1 ∧ I64 c.2) ∧ cs.length ≤ 10000 ∧ I64 b := by
  have hmx := maxB_bd b hb hb'
  refine ⟨hist_i64 h (maxB b) (by omega) (fun x hx => cntB_wf b zs x hb hb' hz hx) (fun x => by have := cntB_bd b zs x; omega), ?_, by unfold I64; omega⟩
  have := hist_len h (maxB b) (fun x hx => cntB_wf b zs x hb hb' hz hx)
  omega
theorem HistV.b {w : World} {L B : Nat} {v : Value} {b : Int} {cs : List (Int × Int)} (h : HistV w L v b cs) (hB : w.heap.size ≤ B) : HistB w B v b cs := by
  obtain ⟨A, c, e, _, _, _, hr⟩ := h; exact ⟨A, c, e, hr.more (Nat.zero_le _) hB⟩
theorem HistR.b {w : World} {L B : Nat} {v : Value} {b : Int} {cs : List (Int × Int)} (h : HistR w L v b cs) (hB : w.heap.size ≤ B) : HistB w B v b cs := by
  obtain ⟨A, c, e, hr⟩ := h; exact ⟨A, c, e, hr.more (Nat.zero_le _) hB⟩
theorem HistB.below {w w' : World} {B B' B'' : Nat} {v : Value} {b : Int} {cs : List (Int × Int)} (h : HistB w B v b cs) (hb : Below B' w w') (hB : B ≤ B') (hB2 : B ≤ B'') : HistB w' B'' v b cs := by
  obtain ⟨A, c, e, hr⟩ := h; exact ⟨A, c, e, (hr.below hb hB).more (Nat.le_refl _) hB2⟩
theorem Tryd.infoI : (Tryd.prog.info? 3).map (fun i => (i.zero, i.size, i.bytes)) = some (some (.int .i64 0), 1, 8) := by kernel_rfl

theorem expAll_one (z p : Int) : expAll [z] p = expand z p := by simp [expAll]
theorem ints_append (a b : List Int) : ints (a ++ b) = ints a ++ ints b := by simp [ints]

set_option maxHeartbeats 2000000 in
set_option maxRecDepth 100000 in
theorem law_stall (b z p : Int) (w : World) (ht : Tab w.heap.size w) (_hz : I64 z) (_hpp : I64 p) :
    Calls Tryd.prog 3 #[.int .i64 b, .int .i64 z, .int .i64 p] w fun e w' => e = .returned (.bool true) ∧ Below w.heap.size w w' := by
  obtain ⟨i0, hi0, hz0, hz1, hz2⟩ := info_parts Tryd.infoI
  have hrd := rd_new w 3 [.int .i64 z] 1 1 rfl
  have hw1 : Below w.heap.size w (w.alloc (.cells #[.int .i64 z] 3)) := (Below.refl _ w).alloc (Nat.le_refl _) _
  by_cases hce : codeE b 1 [z] p = 0
  · obtain ⟨hcv, hp, hp', hs⟩ := codeE_zero hce
    obtain ⟨hb, hb', _, hzf⟩ := codeV_zero hcv
    have hfz := hzf z (by simp)
    simp [fineV] at hfz
    have HE := Lib.hid (Expected_ok b (some ⟨w.heap.size, 0, none⟩) 1 1 [z] p _ hrd hcv hp hp' hs)
    have hq0 : 0 ≤ z / p := Int.ediv_nonneg hfz.1 (by omega)
    have HW1 := Lib.hid hw1
    have HT := Lib.hid ht
    have HZF := Lib.hid hzf
    clear hce hcv hs hrd hw1 ht hzf _hz _hpp
    go_enter Tryd.func3, Tryd.ntmps3
    go_wp2_with fail
    refine HE.out.mono ?_
    rintro e w1 ⟨v, cs, rfl, hh, hv, hb1⟩
    rw [expAll_one] at hh
    have hb01 := HW1.out.trans (hb1.mono (by simp))
    have hs1 := hb1.size
    simp only [World.size_alloc] at hs1
    obtain ⟨A, c, rfl, _, _, _, hrv⟩ := hv
    have HH := Lib.hid hh
    have HRV := Lib.hid hrv
    have HB01 := Lib.hid hb01
    clear hh hrv hb1 hb01 HE
    by_cases hbig : 2000 < z / p
    · go_wp2_with fail
      refine (counts_any _).mono ?_
      rintro e w2 ⟨rfl, hb2⟩
      go_wp2
      go_ret
      exact ⟨rfl, (HB01.out.alloc (by omega) _).trans (hb2.mono (by simp; omega))⟩
    · go_wp2
      have hw2 : Below w.heap.size w ((w1.alloc (.cells #[.int .i64 b, .slice A cs.length c] 24)).alloc (.cells #[.int .i64 z] 3)) := (HB01.out.alloc (by omega) _).alloc (by simp; omega) _
      obtain ⟨W2, hW2⟩ : ∃ W2, W2 = (w1.alloc (.cells #[.int .i64 b, .slice A cs.length c] 24)).alloc (.cells #[.int .i64 z] 3) := ⟨_, rfl⟩
      have hs2 : W2.heap.size = w1.heap.size + 1 + 1 := by rw [hW2]; simp
      have hbx2 : W2.heap[w1.heap.size]? = some (.cells #[.int .i64 b, .slice A cs.length c] 24 (0, 0)) := by
        rw [hW2]; exact (Below.heap_alloc _ _ _ (by simp)).trans (alloc_at _ _ _ rfl)
      have hrv2 : Rd W2 0 w1.heap.size 2 A cs.length (cells2 cs) := by
        rw [hW2]; exact ((HRV.out.more (Nat.zero_le _) (Nat.le_refl _)).alloc (Nat.le_refl _) _).alloc (by simp) _
      have hown2 : W2.ownsRow (w1.heap.size + 1) 3 1 (.slice (some ⟨w1.heap.size + 1, 0, none⟩) 1 1) 1 (ints [z]) := by
        refine ⟨rfl, .inr ⟨w1.heap.size + 1, 1, #[.int .i64 z], rfl, Nat.le_refl _, ?_, Nat.le_refl _, by unfold maxLen; omega, rfl, rfl⟩⟩
        rw [hW2]; exact alloc_at _ _ _ (by simp)
      rw [← hW2] at hw2 ⊢
      clear hW2
      have hen : eN z p ≤ 2000 := by unfold eN; omega
      have hen1 := eN_pos z p
      have HW2 := Lib.hid hw2
      have HBX2 := Lib.hid hbx2
      have HRV2 := Lib.hid hrv2
      have HO2 := Lib.hid hown2
      have HS2 := Lib.hid hs2
      clear hw2 hbx2 hrv2 hown2 hs2
      go_loopw [9, 10] (fun v t wr => ∃ j : Nat, 1 ≤ j ∧ j ≤ eN z p ∧ t = .int .i64 (z - eV z p j) ∧ wr.ownsRow (w1.heap.size + 1) 3 1 v j (ints ((expand z p).take j)) ∧ Fr (fun i => w1.heap.size + 1 ≤ i) W2 wr) (fun _ t _ => (1125899906842624 - intOf t).toNat)
      case atStart =>
        refine ⟨1, Nat.le_refl _, hen1, ?_, ?_, Fr.refl _ _⟩
        · rw [eV_succ, eV_zero]; congr 1; omega
        · rw [expand_take z p 0 hen1]; simpa [eV_zero] using HO2.out
      case round =>
        obtain ⟨j, hj1, hj2, rfl, hown, hfr⟩ := hrel
        have hbd := eV_bd z p j hfz.1 hfz.2 hp hp' hj2
        have hmore := eV_more z p j hp hj1
        have HO := Lib.hid hown
        have HF := Lib.hid hfr
        have hszr := hfr.size
        clear hown hfr
        by_cases hgo : p ≤ eV z p j
        · have hjn := hmore.1 hgo
          obtain ⟨g, cap, rfl, _, _, _, _⟩ := ownsRow_some HO.out (by omega)
          clear hmore
          have hs2 := HS2.out
          have hzr : w1.heap.size + 1 ≤ wr.heap.size := by omega
          clear hs2
          go_wp2_with (at_builtin; refine wpList_append_own _ rfl (.tmp 39) (.tmp 43) 28 rfl (w1.heap.size + 1) 3 i0 _ 1 8 Tryd.underlying28 hi0 hz0 hz1 hz2 rfl (by decide) (.slice (some ⟨g, 0, none⟩) j cap) _ _ rfl (HO.out.alloc _) ⟨wr.heap.size, 0, none⟩ 1 1 [.int .i64 (z - (z - eV z p j))] rfl rfl (cell_one_new _ _ _) (by simp [Value.oneCell']) ?c3 ?c4 ?c5 ?_)
          case c3 => unfold maxLen; omega
          case c4 => omega
          case c5 => first | omega | (simp; omega)
          intro v' w2 hown' hgrow _
          have hex := expand_take z p j hjn
          have hes := eV_succ z p j
          have hev : z - (z - eV z p j) = eV z p j := by omega
          rw [hev] at hown'
          have ho2 : w2.ownsRow (w1.heap.size + 1) 3 1 v' (j + 1) (ints ((expand z p).take (j + 1))) := by
            rw [hex, ints_append]; exact hown'
          have hf2 : Fr (fun i => w1.heap.size + 1 ≤ i) W2 w2 := Fr.trans (HF.out.alloc _) (Fr.of_grown hgrow) (fun i _ hi => (ownsRow_block HO.out hi).1)
          have HO3 := Lib.hid ho2
          have HF3 := Lib.hid hf2
          have HES := Lib.hid hes
          clear ho2 hf2 hown' hgrow hex hes hev
          go_wp2
          go_roundw
          case rel => exact ⟨j + 1, by omega, hjn, by rw [HES.out]; congr 1; omega, HO3.out, HF3.out⟩
          case measure => simp [intOf]; omega
        · have hje : ¬ j < eN z p := fun h => hgo (hmore.2 h)
          obtain rfl : j = eN z p := by omega
          have hown := HO.out
          rw [expand_full] at hown
          obtain ⟨A9, cap9, rfl, _, _, _⟩ := ownsRow_shape hown
          have hbxr : wr.heap[w1.heap.size]? = some (.cells #[.int .i64 b, .slice A cs.length c] 24 (0, 0)) := (HF.out.block _ (by have := HS2.out; omega) (by omega)).trans HBX2.out
          have e0 : wr.cell? ⟨w1.heap.size, 0, none⟩ = some (.int .i64 b) := by rw [cellsAt hbxr]; rfl
          have e1 : wr.cell? ⟨w1.heap.size, 1, none⟩ = some (.slice A cs.length c) := by rw [cellsAt hbxr]; rfl
          have hbwr : Below w.heap.size w wr := HW2.out.trans (HF.out.below (by have := HS2.out; omega) (fun i hi => by omega))
          have hvr : HistB wr wr.heap.size (.agg #[.int .i64 b, .slice A cs.length c]) b cs := ⟨A, c, rfl, (HRV2.out.fr HF.out (by have := HS2.out; omega) (fun i _ hi => by omega)).more (Nat.le_refl _) (by have := HS2.out; omega)⟩
          have hff : ∀ v ∈ expand z p, fineV v = true := expand_fine z p (HZF.out z (by simp)) hp
          obtain ⟨t1, t2, t3⟩ := hist_told HH.out hb hb' hff (by rw [expand_length]; omega)
          have hcv9 : codeV b (eN z p) (expand z p) = 0 := by
            unfold codeV
            have h1 : fineB b = true := by simp [fineB]; omega
            have h2 : anyBad (expand z p) = false := by
              unfold anyBad
              rw [List.any_eq_false]
              intro v hv
              simp [badV, hff v hv]
            rw [h1, h2]; simp; omega
          have HT1 := Lib.hid (told_any _ b 0 cs wr ((HT.out.on hbwr).mono hbwr.size) hvr t3 (by unfold I64; omega) t1 (by omega))
          have hrd9 := (Rd.of_own hown).more (Nat.zero_le _) (Nat.le_refl _)
          have HRD9 := Lib.hid hrd9
          have HBWR := Lib.hid hbwr
          have HCV9 := Lib.hid hcv9
          have HFF := Lib.hid hff
          clear hown hbxr hbwr hvr hcv9 hrd9 hje hmore t1 t2 t3 hff
          go_wp2_with fail
          refine HT1.out.mono ?_
          rintro e w3 ⟨rfl, hb3⟩
          clear HT1
          have hrd3 := (HRD9.out.below hb3 (Nat.le_refl _)).more (Nat.le_refl _) hb3.size
          have HB3 := Lib.hid (HBWR.out.trans (hb3.mono (HBWR.out.size)))
          have HRD3 := Lib.hid hrd3
          clear hb3 hrd3
          go_wp2_with fail
          refine (ROf_any b A9 (eN z p) cap9 (expand z p) w3 HRD3.out (by omega)).mono ?_
          rintro e w4 ⟨v4, rfl, hv4, _, hb4⟩
          obtain ⟨cs4, hh4, hr4⟩ := hv4 HCV9.out
          obtain rfl := hh4.uniq HH.out
          have hb04 := HB3.out.trans (hb4.mono HB3.out.size)
          obtain ⟨t1, t2, t3⟩ := hist_told HH.out hb hb' HFF.out (by rw [expand_length]; omega)
          have HT2 := Lib.hid (told_any v4 b 0 cs4 w4 ((HT.out.on hb04).mono hb04.size) (hr4.b (Nat.le_refl _)) t3 (by unfold I64; omega) t1 (by omega))
          have hc9 := HCV9.out
          have HB04 := Lib.hid hb04
          clear hv4 hh4 hr4 hb4 hb04 t1 t2 t3
          go_wp2_with fail
          refine HT2.out.mono ?_
          rintro e w5 ⟨rfl, hb5⟩
          have HB5 := Lib.hid (HB04.out.trans (hb5.mono HB04.out.size))
          clear hb5 HT2 hc9
          go_wp2_with fail
          refine (counts_any _).mono ?_
          rintro e w6 ⟨rfl, hb6⟩
          go_wp2
          go_ret
          exact ⟨by simp, HB5.out.trans (hb6.mono HB5.out.size)⟩
  · have HE := Lib.hid (Expected_no b (some ⟨w.heap.size, 0, none⟩) 1 1 [z] p _ hrd (by omega) hce)
    have hce' : (codeE b 1 [z] p != 0) = true := by simp [hce]
    have HW1 := Lib.hid hw1
    clear hrd hw1 hce ht _hz _hpp
    go_enter Tryd.func3, Tryd.ntmps3
    go_wp2_with fail
    refine HE.out.mono ?_
    rintro e w1 ⟨he, hb1⟩
    cases he
    have hb01 := HW1.out.trans (hb1.mono (by simp))
    have HB01 := Lib.hid hb01
    clear hb1 hb01 HE
    go_wp2_with fail
    refine (counts_any _).mono ?_
    rintro e w2 ⟨rfl, hb2⟩
    go_wp2
    go_ret
    exact ⟨rfl, (HB01.out.alloc (HB01.out.size) _).trans (hb2.mono (by simp; have := HB01.out.size; omega))⟩
end Go.Proofs.YtgmbgclhljobaaaDoor
