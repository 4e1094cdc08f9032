/- The reference's Coarse. -/
import Derived.Test.YtgmbgclhljobaaaDoorCoarse
import Derived.Test.YtgmbgclhljobaaaDoorCoarseMath
import Derived.Test.YtgmbgclhljobaaaDoorRChk
import Derived.Test.YtgmbgclhljobaaaDoorROf
namespace Go.Proofs.YtgmbgclhljobaaaDoor
open Go Go.RowKit Go.Proofs Go.Maps

/-- what the loop of the reference's Coarse keeps -/
def RCoRel (w wr : World) (b d : Int) (A : Option Addr) (n c M : Nat) (cs : List (Int × Int)) (k : Nat) : Prop :=
  k ≤ n ∧ Below w.heap.size w wr ∧ w.heap.size + 1 < M ∧ M < wr.heap.size ∧
    wr.heap[w.heap.size]? = some (.cells #[.int .i64 b, .slice A n c] 24 (0, 0)) ∧ wr.heap[w.heap.size + 1]? = some (.cells #[.int .i64 0, .slice none 0 0] 24 (0, 0)) ∧
    ∃ A1 c1 cs1, wr.heap[M]? = some (.cells #[.int .i64 d, .slice A1 cs1.length c1] 24 (0, 0)) ∧ IsHist (sumAt (cz b d) (cs.take k)) cs1 ∧ Rd wr (M + 1) wr.heap.size 2 A1 cs1.length (cells2 cs1)

set_option maxHeartbeats 2000000 in
set_option maxRecDepth 100000 in
theorem RCoarse_any (b : Int) (A : Option Addr) (c : Nat) (cs : List (Int × Int)) (d : Int) (w : World) (hr : Rd w 0 w.heap.size 2 A cs.length (cells2 cs)) (hn : cs.length < 9223372036854775807) (hcx : ∀ c ∈ cs, c.1 ≤ 9223372036854775807) :
    Calls Tryd.prog 16 #[.agg #[.int .i64 b, .slice A cs.length c], .int .i64 d] w fun e w' => ∃ v, e = .returned (.tuple #[v, .int .i64 (codeC b cs d)]) ∧
      (codeC b cs d = 0 → ∃ cs', IsHist (sumAt (cz b d) cs) cs' ∧ HistR w' w.heap.size v d cs') ∧ (codeC b cs d ≠ 0 → v = .agg #[.int .i64 0, .slice none 0 0]) ∧ Below w.heap.size w w' := by
  obtain ⟨W0, hW0⟩ : ∃ W0, W0 = (w.alloc (.cells #[.int .i64 b, .slice A cs.length c] 24)).alloc (.cells #[.int .i64 0, .slice none 0 0] 24) := ⟨_, rfl⟩
  have hs0 : W0.heap.size = w.heap.size + 1 + 1 := by rw [hW0]; simp
  have hbw0 : Below w.heap.size w W0 := by rw [hW0]; exact ((Below.refl _ w).alloc (Nat.le_refl _) _).alloc (by simp) _
  have hbx0 : W0.heap[w.heap.size]? = some (.cells #[.int .i64 b, .slice A cs.length c] 24 (0, 0)) := by rw [hW0]; exact (Below.heap_alloc _ _ _ (by simp)).trans (alloc_at _ _ _ rfl)
  have hbx1 : W0.heap[w.heap.size + 1]? = some (.cells #[.int .i64 0, .slice none 0 0] 24 (0, 0)) := by rw [hW0]; exact alloc_at _ _ _ (by simp)
  have hr0 : Rd W0 0 w.heap.size 2 A cs.length (cells2 cs) := hr.below hbw0 (Nat.le_refl _)
  have HC := Lib.hid (rcheck_any b A cs.length c cs W0 (hr0.more (Nat.le_refl _) (by omega)) hn hcx)
  have HR := Lib.hid hr
  have HB0 := Lib.hid hbw0
  have HX0 := Lib.hid hbx0
  have HX1 := Lib.hid hbx1
  have HS0 := Lib.hid hs0
  clear hr hr0 hbw0 hbx0 hbx1 hs0 hcx
  go_enter Tryd.func16, Tryd.ntmps16
  go_wp2_with fail
  rw [← hW0]
  clear hW0
  refine HC.out.mono ?_
  rintro e w1 ⟨rfl, hb1⟩
  have hs1 := hb1.size
  rw [HS0.out] at hs1
  have hbxa := (hb1.block _ (show w.heap.size < W0.heap.size by have := HS0.out; omega)).trans HX0.out
  have hbxb := (hb1.block _ (show w.heap.size + 1 < W0.heap.size by have := HS0.out; omega)).trans HX1.out
  have a0 : w1.cell? ⟨w.heap.size, 0, none⟩ = some (.int .i64 b) := by rw [cellsAt hbxa]; rfl
  have a1 : w1.cell? ⟨w.heap.size, 1, none⟩ = some (.slice A cs.length c) := by rw [cellsAt hbxa]; rfl
  have b0 : w1.cell? ⟨w.heap.size + 1, 0, none⟩ = some (.int .i64 0) := by rw [cellsAt hbxb]; rfl
  have b1 : w1.cell? ⟨w.heap.size + 1, 1, none⟩ = some (.slice none 0 0) := by rw [cellsAt hbxb]; rfl
  have z0 : w1.frozen? ⟨w.heap.size + 1, 0, none⟩ = false := frozenAt hbxb 0
  have z1 : w1.frozen? ⟨w.heap.size + 1, 1, none⟩ = false := frozenAt hbxb 1
  have hbel1 : Below w.heap.size w w1 := HB0.out.trans (hb1.mono (by have := HS0.out; omega))
  have HBE := Lib.hid hbel1
  have HXA := Lib.hid hbxa
  have HXB := Lib.hid hbxb
  clear hb1 hbxa hbxb
  have fin : ∀ (W : World) (code : Int), code ≠ 0 → codeC b cs d = code → Fr (fun i => i = w.heap.size + 1) w1 W → ∃ v, Ending.returned (Value.tuple #[Value.agg #[.int .i64 0, .slice none 0 0], .int .i64 code]) = .returned (.tuple #[v, .int .i64 (codeC b cs d)]) ∧
      (codeC b cs d = 0 → ∃ cs', IsHist (sumAt (cz b d) cs) cs' ∧ HistR W w.heap.size v d cs') ∧ (codeC b cs d ≠ 0 → v = .agg #[.int .i64 0, .slice none 0 0]) ∧ Below w.heap.size w W := by
    intro W code h0 hc hW
    exact ⟨_, by rw [hc], fun h => absurd (hc.symm.trans h) h0, fun _ => rfl, HBE.out.trans (hW.below (by have := HBE.out.size; omega) (fun i hi => by omega))⟩
  have FIN := Lib.hid fin
  clear fin
  by_cases hch : codeH b cs = 0
  · have hch' : (codeH b cs != 0) = false := by simp [hch]
    have hg := codeH_zero hch
    have HG := Lib.hid hg
    obtain ⟨hb2, hb8, hlen, hcs, _, htot⟩ := hg
    have HCS := Lib.hid hcs
    have HCH := Lib.hid hch
    clear hch hcs
    by_cases hd2 : d < 2
    · have hd2' : decide (d < 2) = true := by simpa using hd2
      have HCC := Lib.hid (show codeC b cs d = 9 by unfold codeC; rw [if_neg (by rw [HCH.out]; simp), if_pos (.inl hd2)])
      go_wp2
      refine bodyPost_ret (v := .tuple #[.agg #[.int .i64 0, .slice none 0 0], .int .i64 9]) (by simp [results, Tryd.results16, go_sem, b0, b1]) rfl (FIN.out _ 9 (by omega) HCC.out ?_)
      repeat (first | exact Fr.refl _ _ | (refine Fr.setCell ?_ (fun _ => by dsimp only) _))
    · have hd2' : decide (d < 2) = false := by simpa using hd2
      by_cases hdb : b < d
      · have hdb' : decide (b < d) = true := by simpa using hdb
        have HCC := Lib.hid (show codeC b cs d = 9 by unfold codeC; rw [if_neg (by rw [HCH.out]; simp), if_pos (.inr hdb)])
        go_wp2
        refine bodyPost_ret (v := .tuple #[.agg #[.int .i64 0, .slice none 0 0], .int .i64 9]) (by simp [results, Tryd.results16, go_sem, b0, b1]) rfl (FIN.out _ 9 (by omega) HCC.out ?_)
        repeat (first | exact Fr.refl _ _ | (refine Fr.setCell ?_ (fun _ => by dsimp only) _))
      · have hdb' : decide (b < d) = false := by simpa using hdb
        have HCC := Lib.hid (show codeC b cs d = 0 by unfold codeC; rw [if_neg (by rw [HCH.out]; simp), if_neg (by omega)])
        have hL : w.heap.size + 1 < w1.heap.size := by omega
        have hL0 : w.heap.size < w1.heap.size := by omega
        go_wp2
        go_loopw [8] (fun i wr => ∃ k : Nat, i = .int .i64 k ∧ RCoRel w wr b d A cs.length c w1.heap.size cs k) (fun i _ => cs.length - (intOf i).toNat)
        case atStart =>
          refine ⟨0, rfl, Nat.zero_le _, HBE.out.alloc (by omega) _, hL, by simp, (Below.heap_alloc _ _ _ (by omega)).trans HXA.out, (Below.heap_alloc _ _ _ (by omega)).trans HXB.out, none, 0, [], alloc_at _ _ _ rfl, ⟨List.Pairwise.nil, fun x m => by simp [sumAt_nil]; omega⟩, Rd.nil⟩
        case round =>
          obtain ⟨k, rfl, hk, hbw, hM0, hM1, hx0, hx1, A1, c1, cs1, hbo, hh, hrd⟩ := hrel
          have e0 : wr.cell? ⟨w.heap.size, 0, none⟩ = some (.int .i64 b) := by rw [cellsAt hx0]; rfl
          have e1 : wr.cell? ⟨w.heap.size, 1, none⟩ = some (.slice A cs.length c) := by rw [cellsAt hx0]; rfl
          have o0 : wr.cell? ⟨w1.heap.size, 0, none⟩ = some (.int .i64 d) := by rw [cellsAt hbo]; rfl
          have o1 : wr.cell? ⟨w1.heap.size, 1, none⟩ = some (.slice A1 cs1.length c1) := by rw [cellsAt hbo]; rfl
          by_cases hlt : k < cs.length
          · obtain ⟨bk, o, x, m, rfl, _, hbk, hx, p0, p1⟩ := (HR.out.below hbw (Nat.le_refl _)).at2 hlt
            have hcx := HCS.out (x, m) (List.mem_of_getElem? hx)
            obtain ⟨⟨hx0', hx1'⟩, hm1, hm2⟩ := hcx
            simp only at hx0' hx1' hm1 hm2
            have hlb := lim_bd b x hb2 hb8 hx0' hx1'
            have hsb := fun y => sumAt_bd (cz b d) (cs.take k) y (fun c hc => by have := HCS.out c (List.mem_of_mem_take hc); omega)
            have htt := tot_take_le cs (fun c hc => by have := HCS.out c hc; omega) k
            have hlen1 : cs1.length ≤ 10000000 := by
              have hmx := maxB_bd d (by omega) (by omega)
              have := hist_len hh (maxB d) (fun y hy => by
                obtain ⟨c', hc', e⟩ := sumAt_ne _ _ _ hy
                have h1 := HCS.out c' (List.mem_of_mem_take hc')
                have h2 := cz_bd hb2 hb8 (show 2 ≤ d by omega) (show d ≤ 8 by omega) h1.1.1 h1.1.2
                rw [e] at h2; exact h2)
              omega
            have hnum := hist_num hh (fun y => by have := hsb y; omega)
            have HM := Lib.hid (more_any d (cz b d x) m A1 c1 cs1 wr.drew (hrd.more (Nat.zero_le _) (Nat.le_refl _)) hlen1 (by omega) (by omega) hnum)
            have HP := Lib.hid (show ∀ W, Calls Tryd.prog 50 #[.int .i64 d, .int .i64 (hiB b x)] W (fun e w'' => e = .returned (.int .i64 (cz b d x)) ∧ w'' = W) from fun W => by
              have := place_any d (hiB b x) W (by omega) (by omega) (by omega) (by omega)
              rw [bkt_hi b d x hb8 (by omega) (by omega) hx0' hx1'] at this
              exact this.mono (fun _ _ h => And.intro h.1 h.2.symm))
            have HHI := Lib.hid (fun W => (high_any b x W hb2 hb8 hx0' hx1').mono (fun _ _ h => And.intro h.1 h.2.symm))
            have HX := Lib.hid hx
            have HH := Lib.hid hh
            have HA := Lib.hid hx0
            have HB := Lib.hid hx1
            have HO := Lib.hid hbo
            have HW := Lib.hid hbw
            have HSB := Lib.hid hsb
            have hkk : (0 : Int) ≤ (k : Int) := by omega
            have hkn : (k : Int) < (cs.length : Int) := by omega
            clear hx hh hrd hx0 hx1 hbo hnum hlen1 hsb htt
            go_wp2
            refine wp_region_still_tail 18 mixed (by kernel_rfl) ?_
            simp only [List.take_succ_cons, List.take_zero, List.drop_succ_cons, List.drop_zero]
            repeat still_step
            still_call (HHI.out _)
            still_call (HP.out _)
            repeat still_step
            refine wpStill_nil ?_
            change wpList _ _ _ _ _ wr.drew
            go_wp2_with fail
            refine HM.out.mono ?_
            rintro e w2 ⟨v, rfl, ⟨A2, c2, rfl, hlc, hcm, hA2, hrd2⟩, hb2'⟩
            have hs2 : wr.heap.size ≤ w2.heap.size := hb2'.size
            have hbx1 : w2.heap[w1.heap.size]? = some (.cells #[.int .i64 d, .slice A1 cs1.length c1] 24 (0, 0)) := (hb2'.block _ (show w1.heap.size < wr.heap.size by omega)).trans HO.out
            have d0 : w2.cell? ⟨w1.heap.size, 0, none⟩ = some (.int .i64 d) := by rw [cellsAt hbx1]; rfl
            have d1 : w2.cell? ⟨w1.heap.size, 1, none⟩ = some (.slice A1 cs1.length c1) := by rw [cellsAt hbx1]; rfl
            have y0 : w2.frozen? ⟨w1.heap.size, 0, none⟩ = false := frozenAt hbx1 0
            have y1 : w2.frozen? ⟨w1.heap.size, 1, none⟩ = false := frozenAt hbx1 1
            have hrel2 : ∀ W : World, Fr (fun i => i = w1.heap.size) w2 W → W.heap[w1.heap.size]? = some (.cells #[.int .i64 d, .slice A2 (moreL (cz b d x) m cs1).length c2] 24 (0, 0)) → RCoRel w W b d (some ⟨bk, o, none⟩) cs.length c w1.heap.size cs (k + 1) := by
              intro W hW hbW
              refine ⟨by omega, ?_, hM0, by have := hW.size; omega, ?_, ?_, A2, c2, moreL (cz b d x) m cs1, hbW, ?_, ?_⟩
              · exact (show Below w.heap.size w wr.drew from HW.out.drew).trans ((hb2'.mono (show w.heap.size ≤ wr.heap.size by omega)).trans (hW.below (by omega) (fun i hi => by omega)))
              · rw [hW.block _ (by omega) (by omega), hb2'.block _ (show w.heap.size < wr.heap.size by omega)]
                exact HA.out
              · rw [hW.block _ (by omega) (by omega), hb2'.block _ (show w.heap.size + 1 < wr.heap.size by omega)]
                exact HB.out
              · have := more_hist HH.out (fun y => (HSB.out y).1) (cz b d x) m (by omega)
                rw [sumAt_snoc] at this
                rw [List.take_add_one, HX.out]; exact this
              · exact (hrd2.fr hW (Nat.le_refl _) (fun i hi _ => by have : wr.heap.size ≤ i := hi; omega)).more (show w1.heap.size + 1 ≤ wr.heap.size by omega) hW.size
            have HREL := Lib.hid hrel2
            have HX1' := Lib.hid hbx1
            clear hrel2 hbx1 hb2' hrd2 hA2 hcm hlc e0 e1 o0 o1 p0 p1
            go_wp2
            go_roundw
            case rel =>
              refine ⟨k + 1, by go_num, HREL.out _ ?_ ?_⟩
              · repeat (first | exact Fr.refl _ _ | (refine Fr.setCell ?_ (fun _ => by dsimp only) _))
              · exact (box_store (box_store HX1'.out 0 _) 1 _)
            case measure => simp [intOf]; omega
          · have htk : cs.take k = cs := List.take_of_length_le (by omega)
            rw [htk] at hh
            have r0 : wr.cell? ⟨w.heap.size + 1, 0, none⟩ = some (.int .i64 0) := by rw [cellsAt hx1]; rfl
            have r1 : wr.cell? ⟨w.heap.size + 1, 1, none⟩ = some (.slice none 0 0) := by rw [cellsAt hx1]; rfl
            have y0 : wr.frozen? ⟨w.heap.size + 1, 0, none⟩ = false := frozenAt hx1 0
            have y1 : wr.frozen? ⟨w.heap.size + 1, 1, none⟩ = false := frozenAt hx1 1
            have HH := Lib.hid hh
            have HRD := Lib.hid hrd
            have HW := Lib.hid hbw
            clear hh hrd hx0 hx1 hbo htk
            go_wp2
            have fin2 : ∀ W : World, Fr (fun i => i = w.heap.size + 1) wr W → ∃ v, Ending.returned (Value.tuple #[Value.agg #[Value.int .i64 d, .slice A1 cs1.length c1], .int .i64 0]) = .returned (.tuple #[v, .int .i64 (codeC b cs d)]) ∧
                (codeC b cs d = 0 → ∃ cs', IsHist (sumAt (cz b d) cs) cs' ∧ HistR W w.heap.size v d cs') ∧ (codeC b cs d ≠ 0 → v = .agg #[.int .i64 0, .slice none 0 0]) ∧ Below w.heap.size w W := by
              intro W hW
              exact ⟨_, by rw [HCC.out], fun _ => ⟨cs1, HH.out, A1, c1, rfl, (HRD.out.fr hW (Nat.le_refl _) (fun i hi _ => by omega)).more (by omega) hW.size⟩, fun h => absurd HCC.out h, HW.out.trans (hW.below (by omega) (fun i hi => by omega))⟩
            refine bodyPost_ret (v := .tuple #[.agg #[.int .i64 d, .slice A1 cs1.length c1], .int .i64 0]) (by simp [results, Tryd.results16, go_sem, o0, o1, r0, r1]) rfl (fin2 _ ?_)
            repeat (first | exact Fr.refl _ _ | (refine Fr.setCell ?_ (fun _ => by dsimp only) _))
  · have hch' : (codeH b cs != 0) = true := by simp [hch]
    have HCC := Lib.hid (show codeC b cs d = codeH b cs by unfold codeC; rw [if_pos hch])
    have HCH := Lib.hid hch
    clear hch
    go_wp2
    refine bodyPost_ret (v := .tuple #[.agg #[.int .i64 0, .slice none 0 0], .int .i64 (codeH b cs)]) (by simp [results, Tryd.results16, go_sem, b0, b1]) rfl (FIN.out _ (codeH b cs) HCH.out HCC.out ?_)
    repeat (first | exact Fr.refl _ _ | (refine Fr.setCell ?_ (fun _ => by dsimp only) _))
end Go.Proofs.YtgmbgclhljobaaaDoor
