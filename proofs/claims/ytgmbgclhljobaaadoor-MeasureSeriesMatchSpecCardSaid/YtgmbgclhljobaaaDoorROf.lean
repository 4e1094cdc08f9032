/- The reference's valuesFault, of, Of. -/
import Derived.Test.YtgmbgclhljobaaaDoorRBuck
import Derived.Test.YtgmbgclhljobaaaDoorMore
import Derived.StillTailTactics
namespace Go.Proofs.YtgmbgclhljobaaaDoor
open Go Go.RowKit Go.Proofs Go.Maps

/-- the value v is a histogram: its bits and its counts, in blocks from L on (its capacity untold) -/
def HistR (w : World) (L : Nat) (v : Value) (b : Int) (cs : List (Int × Int)) : Prop :=
  ∃ A c, v = .agg #[.int .i64 b, .slice A cs.length c] ∧ Rd w L w.heap.size 2 A cs.length (cells2 cs)
theorem HistV.r {w : World} {L : Nat} {v : Value} {b : Int} {cs : List (Int × Int)} (h : HistV w L v b cs) : HistR w L v b cs := by
  obtain ⟨A, c, e, _, _, _, hr⟩ := h; exact ⟨A, c, e, hr⟩

theorem mixed : Tryd.prog.follows .mixedOrders = true := by kernel_rfl

set_option maxHeartbeats 1000000 in
theorem valuesFault_any (b : Int) (A : Option Addr) (n c L B : Nat) (zs : List Int) (w : World) (hr : Rd w L B 1 A n (ints zs)) (hn : n < 9223372036854775807) :
    Calls Tryd.prog 46 #[.int .i64 b, .slice A n c] w fun e w' => e = .returned (.int .i64 (codeV b n zs)) ∧ ∃ q, w' = w.drewN q := by
  have hl : zs.length = n := by have := hr.1; simpa [ints] using this
  have HR := Lib.hid hr
  have HL := Lib.hid hl
  clear hr hl
  cases h1 : fineB b with
  | false =>
    have hc : codeV b n zs = 9 := by simp [codeV, h1]
    rw [hc]
    go_enter Tryd.func46, Tryd.ntmps46
    go_wp2_with (go_at_call 55; refine (fineBits_any _ _).mono ?_; rintro e w' ⟨rfl, rfl⟩)
    go_ret
    exact ⟨rfl, 0, rfl⟩
  | true =>
    by_cases h2 : 20000 < n
    · have hc : codeV b n zs = 3 := by simp [codeV, h1, h2]
      rw [hc]
      go_enter Tryd.func46, Tryd.ntmps46
      go_wp2_with (go_at_call 55; refine (fineBits_any _ _).mono ?_; rintro e w' ⟨rfl, rfl⟩)
      go_ret
      exact ⟨rfl, 0, rfl⟩
    · have hc : codeV b n zs = if anyBad zs then 9 else 0 := by simp only [codeV, h1, if_true, if_neg h2]
      have HC := Lib.hid hc
      clear hc
      go_enter Tryd.func46, Tryd.ntmps46
      go_wp2_with (go_at_call 55; refine (fineBits_any _ _).mono ?_; rintro e w' ⟨rfl, rfl⟩)
      go_loopw [5] (fun i wr => ∃ k : Nat, k ≤ n ∧ i = .int .i64 k ∧ anyBad (zs.take k) = false ∧ ∃ q, wr = w.drewN q) (fun i _ => n - (intOf i).toNat)
      case atStart => exact ⟨0, Nat.zero_le _, rfl, by simp [anyBad], 0, rfl⟩
      case round =>
        obtain ⟨k, hk, rfl, hno, q, rfl⟩ := hrel
        have HNO := Lib.hid hno
        clear hno
        by_cases hlt : k < n
        · obtain ⟨bk, o, u, rfl, hb, hu, hcell⟩ := HR.out.at1 hlt
          obtain ⟨z, hz, rfl⟩ := ints_get hu
          have htk : zs.take (k + 1) = zs.take k ++ [z] := by rw [List.take_add_one, hz]; rfl
          have HTK := Lib.hid htk
          have HZ := Lib.hid (List.mem_of_getElem? hz)
          clear hu hz htk
          by_cases hz0 : z < 0
          · have hz0' : decide (z < 0) = true := by simpa using hz0
            have hbad : badV z = true := by simp [badV, fineV]; omega
            have hany : anyBad zs = true := List.any_eq_true.2 ⟨z, HZ.out, hbad⟩
            have HA := Lib.hid hany
            clear hany hbad
            go_wp2
            go_ret
            exact ⟨by rw [HC.out, HA.out]; rfl, _, rfl⟩
          · have hz0' : decide (z < 0) = false := by simpa using hz0
            by_cases hz1 : 1125899906842623 < z
            · have hz1' : decide (1125899906842623 < z) = true := by simpa using hz1
              have hbad : badV z = true := by simp [badV, fineV]; omega
              have hany : anyBad zs = true := List.any_eq_true.2 ⟨z, HZ.out, hbad⟩
              have HA := Lib.hid hany
              clear hany hbad
              go_wp2
              go_ret
              exact ⟨by rw [HC.out, HA.out]; rfl, _, rfl⟩
            · have hz1' : decide (1125899906842623 < z) = false := by simpa using hz1
              have hbad : badV z = false := by simp [badV, fineV]; omega
              have HB := Lib.hid hbad
              clear hbad
              go_wp2
              go_roundw
              case rel => exact ⟨k + 1, by omega, by go_num, by rw [HTK.out, anyBad, List.any_append]; have := HNO.out; unfold anyBad at this; simp [HB.out, this], _, rfl⟩
              case measure => simp [intOf]; omega
        · go_wp2
          go_ret
          have h := HNO.out
          rw [List.take_of_length_le (by have := HL.out; omega)] at h
          exact ⟨by rw [HC.out, h]; rfl, _, rfl⟩

/-- what the loop of the reference's 'of' keeps -/
def ROfRel (w wr : World) (b : Int) (f : Int → Int) : Prop :=
  Below w.heap.size w wr ∧ w.heap.size + 1 + 1 ≤ wr.heap.size ∧ wr.heap[w.heap.size]? = some (.cells #[.int .i64 0, .slice none 0 0] 24 (0, 0)) ∧
    ∃ A c cs, wr.heap[w.heap.size + 1]? = some (.cells #[.int .i64 b, .slice A cs.length c] 24 (0, 0)) ∧ IsHist f cs ∧ Rd wr (w.heap.size + 1 + 1) wr.heap.size 2 A cs.length (cells2 cs)
theorem hist_num {f : Int → Int} {cs : List (Int × Int)} (h : IsHist f cs) (hf : ∀ x, f x ≤ 1125899906842624 * 2) : ∀ c ∈ cs, 0 ≤ c.2 ∧ c.2 ≤ 1125899906842624 * 2 := by
  intro c hc
  obtain ⟨x, n⟩ := c
  have h1 := (h.2 x n).1 hc
  have h2 := hf x
  simp only; omega

set_option maxHeartbeats 2000000 in
set_option maxRecDepth 100000 in
theorem rof_any (b : Int) (A : Option Addr) (n c : Nat) (zs : List Int) (w : World) (hr : Rd w 0 w.heap.size 1 A n (ints zs)) (hn : n ≤ 1000000) (hb : 2 ≤ b) (hb' : b ≤ 8) (hz : ∀ v ∈ zs, fineV v = true) :
    Calls Tryd.prog 47 #[.int .i64 b, .slice A n c] w fun e w' => ∃ v cs, e = .returned v ∧ IsHist (cntB b zs) cs ∧ HistR w' w.heap.size v b cs ∧ Below w.heap.size w w' := by
  have hl : zs.length = n := by have := hr.1; simpa [ints] using this
  have HR := Lib.hid hr
  have HL := Lib.hid hl
  have HZ := Lib.hid hz
  clear hr hl hz
  go_enter Tryd.func47, Tryd.ntmps47
  go_wp2
  go_loopw [6] (fun i wr => ∃ k : Nat, k ≤ n ∧ i = .int .i64 k ∧ ROfRel w wr b (cntB b (zs.take k))) (fun i _ => n - (intOf i).toNat)
  case atStart =>
    refine ⟨0, Nat.zero_le _, rfl, ((Below.refl _ w).alloc (Nat.le_refl _) _).alloc (by simp) _, by simp, (Below.heap_alloc _ _ _ (by simp)).trans (alloc_at _ _ _ rfl), none, 0, [], alloc_at _ _ _ (by simp), ⟨List.Pairwise.nil, fun x m => by simp [cntB]; omega⟩, Rd.nil⟩
  case round =>
    obtain ⟨k, hk, rfl, hbw, hsz, hb0, A1, c1, cs, hb1, hh, hrd⟩ := hrel
    by_cases hlt : k < n
    · obtain ⟨bk, o, u, rfl, hbk, hu, hcell⟩ := (HR.out.below hbw (Nat.le_refl _)).at1 hlt
      obtain ⟨z, hz, rfl⟩ := ints_get hu
      have htk : zs.take (k + 1) = zs.take k ++ [z] := by rw [List.take_add_one, hz]; rfl
      have hfz := HZ.out z (List.mem_of_getElem? hz)
      simp [fineV] at hfz
      have e0 : wr.cell? ⟨w.heap.size + 1, 0, none⟩ = some (.int .i64 b) := by rw [cellsAt hb1]; rfl
      have e1 : wr.cell? ⟨w.heap.size + 1, 1, none⟩ = some (.slice A1 cs.length c1) := by rw [cellsAt hb1]; rfl
      have hN1 : w.heap.size + 1 < wr.heap.size := by omega
      have hcb := cntB_bd b (zs.take k)
      have hlen : cs.length ≤ 10000000 := by
        have hmx := maxB_bd b hb hb'
        have := hist_len hh (maxB b) (fun x hx => cntB_wf b (zs.take k) x hb hb' (fun v hv => HZ.out v (List.mem_of_mem_take hv)) hx)
        omega
      have hnum := hist_num hh (fun x => by have := hcb x; rw [List.length_take] at this; omega)
      have HM := Lib.hid (more_any b (bkt b z) 1 A1 c1 cs wr.drew (hrd.more (Nat.zero_le _) (Nat.le_refl _)) hlen (by omega) (by omega) hnum)
      have HP := Lib.hid (fun W => (place_any b z W hb hb' hfz.1 (by omega)).mono (fun _ _ h => And.intro h.1 h.2.symm))
      have HTK := Lib.hid htk
      have HH := Lib.hid hh
      have HB0 := Lib.hid hb0
      have HB1 := Lib.hid hb1
      have HW := Lib.hid hbw
      have HCB := Lib.hid hcb
      clear hu hz htk hh hrd hb0 hb1 hcb hnum hlen
      go_wp2
      refine wp_region_still_tail 7 mixed (by kernel_rfl) ?_
      simp only [List.take_succ_cons, List.take_zero, List.drop_succ_cons, List.drop_zero]
      repeat still_step
      still_call (HP.out _)
      refine wpStill_nil ?_
      change wpList _ _ _ _ _ wr.drew
      go_wp2_with fail
      refine HM.out.mono ?_
      rintro e w1 ⟨v, rfl, ⟨A2, c2, rfl, hlc, hcm, hA2, hrd2⟩, hb2⟩
      have hs1 : wr.heap.size ≤ w1.heap.size := hb2.size
      have hbx1 : w1.heap[w.heap.size + 1]? = some (.cells #[.int .i64 b, .slice A1 cs.length c1] 24 (0, 0)) := (hb2.block _ (show w.heap.size + 1 < wr.heap.size by omega)).trans HB1.out
      have d0 : w1.cell? ⟨w.heap.size + 1, 0, none⟩ = some (.int .i64 b) := by rw [cellsAt hbx1]; rfl
      have d1 : w1.cell? ⟨w.heap.size + 1, 1, none⟩ = some (.slice A1 cs.length c1) := by rw [cellsAt hbx1]; rfl
      have z0 : w1.frozen? ⟨w.heap.size + 1, 0, none⟩ = false := frozenAt hbx1 0
      have z1 : w1.frozen? ⟨w.heap.size + 1, 1, none⟩ = false := frozenAt hbx1 1
      have hrel2 : ∀ W : World, Fr (fun i => i = w.heap.size + 1) w1 W → W.heap[w.heap.size + 1]? = some (.cells #[.int .i64 b, .slice A2 (moreL (bkt b z) 1 cs).length c2] 24 (0, 0)) → ROfRel w W b (cntB b (zs.take (k + 1))) := by
        intro W hW hbW
        refine ⟨?_, by have := hW.size; omega, ?_, A2, c2, moreL (bkt b z) 1 cs, hbW, ?_, ?_⟩
        · exact (show Below w.heap.size w wr.drew from HW.out.drew).trans ((hb2.mono (show w.heap.size ≤ wr.heap.size by omega)).trans (hW.below (by omega) (fun i hi => by omega)))
        · rw [hW.block _ (by omega) (by omega), hb2.block _ (show w.heap.size < wr.heap.size by omega)]
          exact HB0.out
        · rw [HTK.out, ← cntB_snoc]
          exact more_hist HH.out (fun x => (HCB.out x).1) (bkt b z) 1 (by omega)
        · exact (hrd2.fr hW (Nat.le_refl _) (fun i hi _ => by have : wr.heap.size ≤ i := hi; omega)).more (show w.heap.size + 1 + 1 ≤ wr.heap.size by omega) hW.size
      have HREL := Lib.hid hrel2
      have HX1 := Lib.hid hbx1
      clear hrel2 hbx1 hb2 hrd2 hA2 hcm hlc e0 e1 hcell
      go_wp2
      go_roundw
      case rel =>
        refine ⟨k + 1, by omega, by go_num, HREL.out _ ?_ ?_⟩
        · repeat (first | exact Fr.refl _ _ | (refine Fr.setCell ?_ (fun _ => by dsimp only) _))
        · exact (box_store (box_store HX1.out 0 _) 1 _)
      case measure => simp [intOf]; omega
    · have htk : zs.take k = zs := List.take_of_length_le (by have := HL.out; omega)
      rw [htk] at hh
      have e0 : wr.cell? ⟨w.heap.size + 1, 0, none⟩ = some (.int .i64 b) := by rw [cellsAt hb1]; rfl
      have e1 : wr.cell? ⟨w.heap.size + 1, 1, none⟩ = some (.slice A1 cs.length c1) := by rw [cellsAt hb1]; rfl
      have r0 : wr.cell? ⟨w.heap.size, 0, none⟩ = some (.int .i64 0) := by rw [cellsAt hb0]; rfl
      have r1 : wr.cell? ⟨w.heap.size, 1, none⟩ = some (.slice none 0 0) := by rw [cellsAt hb0]; rfl
      have y0 : wr.frozen? ⟨w.heap.size, 0, none⟩ = false := frozenAt hb0 0
      have y1 : wr.frozen? ⟨w.heap.size, 1, none⟩ = false := frozenAt hb0 1
      have HH := Lib.hid hh
      have HRD := Lib.hid hrd
      have HW := Lib.hid hbw
      clear hh hrd hb0 hb1 htk
      go_wp2
      have fin : ∀ W : World, Fr (fun i => i = w.heap.size) wr W → ∃ v cs', Ending.returned (Value.agg #[Value.int .i64 b, .slice A1 cs.length c1]) = .returned v ∧ IsHist (cntB b zs) cs' ∧ HistR W w.heap.size v b cs' ∧ Below w.heap.size w W := by
        intro W hW
        refine ⟨_, cs, rfl, HH.out, ⟨A1, c1, rfl, (HRD.out.fr hW (Nat.le_refl _) (fun i hi _ => by omega)).more (by omega) hW.size⟩, HW.out.trans (hW.below (by omega) (fun i hi => by omega))⟩
      refine bodyPost_ret (v := .agg #[.int .i64 b, .slice A1 cs.length c1]) (by simp [results, Tryd.results47, go_sem, r0, r1]) rfl (fin _ ?_)
      repeat (first | exact Fr.refl _ _ | (refine Fr.setCell ?_ (fun _ => by dsimp only) _))

set_option maxHeartbeats 1000000 in
theorem ROf_any (b : Int) (A : Option Addr) (n c : Nat) (zs : List Int) (w : World) (hr : Rd w 0 w.heap.size 1 A n (ints zs)) (hn : n < 9223372036854775807) :
    Calls Tryd.prog 14 #[.int .i64 b, .slice A n c] w fun e w' => ∃ v, e = .returned (.tuple #[v, .int .i64 (codeV b n zs)]) ∧
      (codeV b n zs = 0 → ∃ cs, IsHist (cntB b zs) cs ∧ HistR w' w.heap.size v b cs) ∧ (codeV b n zs ≠ 0 → v = .agg #[.int .i64 0, .slice none 0 0]) ∧ Below w.heap.size w w' := by
  have hr1 : ∀ o q, Rd ((w.alloc o).drewN q) 0 ((w.alloc o).drewN q).heap.size 1 A n (ints zs) := fun o q => (hr.alloc (Nat.le_refl _) o).more (Nat.le_refl _) (by simp)
  have HR := Lib.hid hr1
  clear hr hr1
  by_cases h0 : codeV b n zs = 0
  · obtain ⟨hb, hb', hn2, hz⟩ := codeV_zero h0
    have H0 := Lib.hid h0
    have HZ := Lib.hid hz
    have h0' : (codeV b n zs != 0) = false := by simp [h0]
    clear h0 hz
    go_enter Tryd.func14, Tryd.ntmps14
    go_wp2_with fail
    refine (valuesFault_any b A n c 0 _ zs _ (HR.out _ 0) hn).mono ?_
    rintro e w' ⟨rfl, q, rfl⟩
    go_wp2_with fail
    refine (rof_any b A n c zs _ (HR.out _ q) (by omega) hb hb' HZ.out).mono ?_
    rintro e w' ⟨v, cs, rfl, hh, ⟨A', c', rfl, hrd⟩, hbw⟩
    have hbx' : w'.heap[w.heap.size]? = some (.cells #[.int .i64 0, .slice none 0 0] 24 (0, 0)) := (hbw.block _ (by simp)).trans (alloc_at _ _ _ rfl)
    have c0 : w'.cell? ⟨w.heap.size, 0, none⟩ = some (.int .i64 0) := by rw [cellsAt hbx']; rfl
    have c1 : w'.cell? ⟨w.heap.size, 1, none⟩ = some (.slice none 0 0) := by rw [cellsAt hbx']; rfl
    have z0 : w'.frozen? ⟨w.heap.size, 0, none⟩ = false := frozenAt hbx' 0
    have z1 : w'.frozen? ⟨w.heap.size, 1, none⟩ = false := frozenAt hbx' 1
    have HHI := Lib.hid hh
    have HRD := Lib.hid hrd
    have HBW := Lib.hid hbw
    clear hh hrd hbw hbx'
    go_wp2
    have fin : ∀ W : World, Fr (fun i => i = w.heap.size) w' W → ∃ v, Ending.returned (Value.tuple #[Value.agg #[Value.int .i64 b, .slice A' cs.length c'], .int .i64 0]) = .returned (.tuple #[v, .int .i64 (codeV b n zs)]) ∧
        (codeV b n zs = 0 → ∃ cs, IsHist (cntB b zs) cs ∧ HistR W w.heap.size v b cs) ∧ (codeV b n zs ≠ 0 → v = .agg #[.int .i64 0, .slice none 0 0]) ∧ Below w.heap.size w W := by
      intro W hW
      have hs2 := HBW.out.size
      simp only [World.size_alloc, World.heap_drewN] at hs2
      refine ⟨_, by rw [H0.out], fun _ => ⟨cs, HHI.out, ⟨A', c', rfl, ?_⟩⟩, fun h => absurd H0.out h, ?_⟩
      · exact (HRD.out.fr hW (Nat.le_refl _) (fun i hi _ => by simp at hi; omega)).more (by simp) hW.size
      · exact (below_drewN ((Below.refl _ w).alloc (Nat.le_refl _) _) q).trans ((HBW.out.mono (by simp)).trans (hW.below (by omega) (fun i hi => by omega)))
    refine bodyPost_ret (v := .tuple #[.agg #[.int .i64 b, .slice A' cs.length c'], .int .i64 0]) (by simp [results, Tryd.results14, go_sem, c0, c1]) rfl (fin _ ?_)
    repeat (first | exact Fr.refl _ _ | (refine Fr.setCell ?_ (fun _ => by dsimp only) _))
  · have h0' : (codeV b n zs != 0) = true := by simp [h0]
    have H0 := Lib.hid h0
    clear h0
    go_enter Tryd.func14, Tryd.ntmps14
    go_wp2_with fail
    refine (valuesFault_any b A n c 0 _ zs _ (HR.out _ 0) hn).mono ?_
    rintro e w' ⟨rfl, q, rfl⟩
    go_wp2
    refine bodyPost_ret (v := .tuple #[.agg #[.int .i64 0, .slice none 0 0], .int .i64 (codeV b n zs)]) (by simp [results, Tryd.results14, go_sem]) rfl ?_
    exact ⟨_, rfl, fun h => absurd h H0.out, fun _ => rfl, by repeat (first | exact Below.refl _ _ | refine Below.setCell ?_ (by dsimp only; omega) _ | refine below_drewN ?_ _ | refine Below.alloc ?_ (Nat.le_refl _) _)⟩
end Go.Proofs.YtgmbgclhljobaaaDoor
