/- The reference's Expected. -/
import Derived.Test.YtgmbgclhljobaaaDoorHP
import Derived.Test.YtgmbgclhljobaaaDoorExp
import Derived.Test.YtgmbgclhljobaaaDoorMergeMath
import Derived.StillTailTactics
namespace Go.Proofs.YtgmbgclhljobaaaDoor
open Go Go.RowKit Go.Proofs Go.Maps

/-- what the loops of the reference's Expected keep: the histogram of the values so far -/
def RExR (w wr : World) (O : Nat) (b : Int) (l : List Int) : Prop :=
  ∃ A c cs, St w wr [(w.heap.size, Obj.cells #[Value.int .i64 0, Value.slice none 0 0] 24 (0, 0)), (O, Obj.cells #[Value.int .i64 b, Value.slice A cs.length c] 24 (0, 0))] ∧ IsHist (cntB b l) cs ∧ Rd wr (O + 1) wr.heap.size 2 A cs.length (cells2 cs)
theorem codeE_range {b : Int} {n : Nat} {zs : List Int} {p : Int} (h : codeV b n zs = 0) (hp : p < 1 ∨ 1125899906842623 < p) : codeE b n zs p = 9 := by
  unfold codeE; rw [if_neg (by rw [h]; simp), if_pos hp]
theorem codeE_size {b : Int} {n : Nat} {zs : List Int} {p : Int} (h : codeV b n zs = 0) (hp : 1 ≤ p) (hp' : p ≤ 1125899906842623) (hs : 1000000 < sumE zs p) : codeE b n zs p = 3 := by
  unfold codeE; rw [if_neg (by rw [h]; simp), if_neg (by omega), if_pos hs]
theorem codeE_ok {b : Int} {n : Nat} {zs : List Int} {p : Int} (h : codeV b n zs = 0) (hp : 1 ≤ p) (hp' : p ≤ 1125899906842623) (hs : sumE zs p ≤ 1000000) : codeE b n zs p = 0 := by
  unfold codeE; rw [if_neg (by rw [h]; simp), if_neg (by omega), if_neg (by omega)]

set_option maxHeartbeats 4000000 in
set_option maxRecDepth 100000 in
theorem RExpected_any (b : Int) (A : Option Addr) (n c : Nat) (zs : List Int) (p : Int) (w : World) (hr : Rd w 0 w.heap.size 1 A n (ints zs)) (hn : n < 9223372036854775807) :
    Calls Tryd.prog 26 #[.int .i64 b, .slice A n c, .int .i64 p] w (HistPost (cntB b (expAll zs p)) b (codeE b n zs p) w) := by
  have hl : zs.length = n := by have := hr.1; simpa [ints] using this
  obtain ⟨W0, hW0⟩ : ∃ W0, W0 = (w).alloc (.cells #[Value.int .i64 0, Value.slice none 0 0] 24) := ⟨_, rfl⟩
  have st0 : St w W0 [(w.heap.size, Obj.cells #[Value.int .i64 0, Value.slice none 0 0] 24 (0, 0))] := by rw [hW0]; exact (St.start w).alloc _ _ (by simp)
  have hs0 : W0.heap.size = w.heap.size + 1 := by rw [hW0]; simp
  have hsz0 : w.heap.size + 1 ≤ W0.heap.size := by omega
  have HST0 := Lib.hid st0
  have HS0 := Lib.hid hs0
  have HV := Lib.hid ((valuesFault_any b A n c 0 _ zs W0 (hr.old st0.below) hn).mono (show ∀ e w', _ → (e = .returned (.int .i64 (codeV b n zs)) ∧ Below W0.heap.size W0 w') from fun e w' ⟨h1, q, h2⟩ => ⟨h1, by rw [h2]; exact below_drewN (Below.refl _ _) q⟩))
  have HR := Lib.hid hr
  have HL := Lib.hid hl
  clear hr hl
  clear st0 hs0
  go_enter Tryd.func26, Tryd.ntmps26
  go_wp2_with fail
  rw [← hW0]
  clear hW0
  go_wp2_with fail
  refine HV.out.mono ?_
  rintro e w1 ⟨rfl, hb1⟩
  have HST1 := Lib.hid (HST0.out.call hb1)
  have hsz1 := hb1.size
  clear hb1
  have k0_0 : w1.cell? ⟨w.heap.size, 0, none⟩ = some (Value.int .i64 0) := HST1.out.cell 0 0 rfl rfl
  have z0_0 : w1.frozen? ⟨w.heap.size, 0, none⟩ = false := HST1.out.frozen 0 0 rfl
  have k0_1 : w1.cell? ⟨w.heap.size, 1, none⟩ = some (Value.slice none 0 0) := HST1.out.cell 0 1 rfl rfl
  have z0_1 : w1.frozen? ⟨w.heap.size, 1, none⟩ = false := HST1.out.frozen 0 1 rfl
  have l0_ : w.heap.size < w1.heap.size := HST1.out.lt 0 rfl
  by_cases hcv : codeV b n zs = 0
  · have hcv' : (codeV b n zs != 0) = false := by simp [hcv]
    obtain ⟨hb2, hb8, hn2, hz⟩ := codeV_zero hcv
    have HCV := Lib.hid hcv
    have HZ := Lib.hid hz
    have hmx := maxB_bd b hb2 hb8
    clear hcv hz
    by_cases hp1 : p < 1
    · have hp1' : decide (p < 1) = true := by simpa using hp1
      have HCC := Lib.hid (codeE_range HCV.out (.inl hp1))
      go_wp2
      refine bodyPost_ret (v := .tuple #[.agg #[.int .i64 0, .slice none 0 0], .int .i64 (9)]) (by simp [results, Tryd.results26, go_sem, k0_0, k0_1]) rfl (HistPost.none (by omega) HCC.out ?_)
      repeat (first | exact HST1.out.below | (refine Below.setCell ?_ (by dsimp only; omega) _))
    · have hp1' : decide (p < 1) = false := by simpa using hp1
      by_cases hp2 : 1125899906842623 < p
      · have hp2' : decide (1125899906842623 < p) = true := by simpa using hp2
        have HCC := Lib.hid (codeE_range HCV.out (.inr hp2))
        go_wp2
        refine bodyPost_ret (v := .tuple #[.agg #[.int .i64 0, .slice none 0 0], .int .i64 (9)]) (by simp [results, Tryd.results26, go_sem, k0_0, k0_1]) rfl (HistPost.none (by omega) HCC.out ?_)
        repeat (first | exact HST1.out.below | (refine Below.setCell ?_ (by dsimp only; omega) _))
      · have hp2' : decide (1125899906842623 < p) = false := by simpa using hp2
        go_wp2
        go_loop [9, 10] (fun s i => ∃ k : Nat, k ≤ n ∧ i = .int .i64 k ∧ s = .int .i64 (sumE (zs.take k) p) ∧ sumE (zs.take k) p ≤ 1125899907842623) (fun _ i => n - (intOf i).toNat)
        case atStart => exact ⟨0, Nat.zero_le _, rfl, by simp [sumE], by simp [sumE]⟩
        case round =>
          obtain ⟨k, hk, rfl, rfl, hsb⟩ := hrel
          have hm := sumE_mono zs p k
          by_cases hlt : k < n
          · have hlt' : decide (k < n) = true := by simpa using hlt
            by_cases hs : sumE (zs.take k) p ≤ 1000000
            · have hs' : decide (sumE (zs.take k) p ≤ 1000000) = true := by simpa using hs
              obtain ⟨bk, o, u, rfl, hbk, hu, hcell⟩ := (HR.out.below HST1.out.below (Nat.le_refl _)).at1 hlt
              obtain ⟨z, hz, rfl⟩ := ints_get hu
              have hfz := HZ.out z (List.mem_of_getElem? hz)
              simp [fineV] at hfz
              have hst := sumE_take zs p k z hz
              have hq0 : 0 ≤ z / p := Int.ediv_nonneg hfz.1 (by omega)
              have hq1 : z / p ≤ z := Int.ediv_le_self _ hfz.1
              have HST := Lib.hid hst
              clear hu hz hst
              go_wp2
              go_round
              case rel => exact ⟨k + 1, by omega, by go_num, by rw [HST.out], by rw [HST.out]; omega⟩
              case measure => simp [intOf]; omega
            · have hs' : decide (sumE (zs.take k) p ≤ 1000000) = false := by simpa using hs
              have hs2 : decide (1000000 < sumE (zs.take k) p) = true := by simp; omega
              have HCC := Lib.hid (codeE_size HCV.out (by omega) (by omega) (show 1000000 < sumE zs p by omega))
              go_wp2
              refine bodyPost_ret (v := .tuple #[.agg #[.int .i64 0, .slice none 0 0], .int .i64 (3)]) (by simp [results, Tryd.results26, go_sem, k0_0, k0_1]) rfl (HistPost.none (by omega) HCC.out ?_)
              repeat (first | exact HST1.out.below | (refine Below.setCell ?_ (by dsimp only; omega) _))
          · have hlt' : decide (k < n) = false := by simpa using hlt
            have htk : zs.take k = zs := List.take_of_length_le (by have := HL.out; omega)
            rw [htk]
            by_cases hs : sumE zs p ≤ 1000000
            · have hs2 : decide (1000000 < sumE zs p) = false := by simp; omega
              have HCC := Lib.hid (codeE_ok HCV.out (by omega) (by omega) hs)
              clear htk hm hsb
              go_wp2
              have hO : w.heap.size < w1.heap.size := l0_
              go_loopw [12, 13] (fun i _ wr => ∃ k : Nat, i = .int .i64 k ∧ k ≤ n ∧ RExR w wr w1.heap.size b (expAll (zs.take k) p)) (fun i _ _ => n - (intOf i).toNat)
              case atStart => exact ⟨0, rfl, Nat.zero_le _, none, 0, [], HST1.out.alloc _ _ rfl, ⟨List.Pairwise.nil, fun x m => by simp [cntB, expAll]; omega⟩, Rd.nil⟩
              case round =>
                clear hk hlt hlt'
                obtain ⟨j, rfl, hj, hrel⟩ := hrel
                have hm := sumE_mono zs p j
                have hlm := sumE_length (zs.take j) p
                obtain ⟨LST, hLST⟩ : ∃ LST, LST = expAll (zs.take j) p := ⟨_, rfl⟩
                rw [← hLST] at hrel hlm
                have hfin : ∀ v ∈ LST, fineV v = true := by rw [hLST]; exact expAll_fine _ p (fun z hz => HZ.out z (List.mem_of_mem_take hz)) (by omega)
                have HFIN := Lib.hid hfin
                clear hfin
                obtain ⟨Ac, cc, csc, hst, hh, hrd⟩ := hrel
                have HSTr := Lib.hid hst
                have hl4 := hst.lt 1 rfl
                by_cases hlt : j < n
                · obtain ⟨bk, o, u, rfl, hbk, hu, hcell⟩ := (HR.out.below HSTr.out.below (Nat.le_refl _)).at1 hlt
                  obtain ⟨z, hz, rfl⟩ := ints_get hu
                  have hfz := HZ.out z (List.mem_of_getElem? hz)
                  have HFZ := Lib.hid hfz
                  simp [fineV] at hfz
                  have hstz := sumE_take zs p j z hz
                  have hm2 := sumE_mono zs p (j + 1)
                  rw [hstz] at hm2
                  have het := expAll_take zs p j z hz
                  rw [← hLST] at het
                  have hen : (eN z p : Int) = max 1 (z / p) := by unfold eN; omega
                  have hcount : LST.length + eN z p ≤ 1000000 := by omega
                  have hep := eN_pos z p
                  have HET := Lib.hid het
                  have HLST := Lib.hid hLST
                  have hkk : (0 : Int) ≤ (j : Int) := by omega
                  have hkn : (j : Int) < (n : Int) := by omega
                  clear hu hz hstz het hLST hm hm2 hlm hen
                  have hgc : csc.length ≤ 10000000 := by
                    have := hist_len hh (maxB b) (fun x hx => cntB_wf b (LST) x hb2 hb8 HFIN.out hx)
                    omega
                  have hcb := cntB_bd b (LST)
                  have hnum := hist_num hh (fun x => by have := hcb x; have : (LST).length ≤ 1000000 := (by omega); omega)
                  have HM := Lib.hid (more_any b (bkt b (z)) 1 Ac cc csc wr.drew (hrd.more (Nat.zero_le _) (Nat.le_refl _)) hgc (by omega) (by omega) hnum)
                  have HP := Lib.hid (fun W => (place_any b (z) W hb2 hb8 (by omega) (by omega)).mono (fun _ _ h => And.intro h.1 h.2.symm))
                  have hnh := more_hist hh (fun x => (hcb x).1) (bkt b (z)) 1 (by omega)
                  rw [cntB_snoc] at hnh
                  have HNH := Lib.hid hnh
                  clear hh hrd hgc hnum hcb hnh hst
                  clear k0_0 z0_0 k0_1 z0_1 l0_
                  have k0_0 : wr.cell? ⟨w.heap.size, 0, none⟩ = some (Value.int .i64 0) := HSTr.out.cell 0 0 rfl rfl
                  have z0_0 : wr.frozen? ⟨w.heap.size, 0, none⟩ = false := HSTr.out.frozen 0 0 rfl
                  have k0_1 : wr.cell? ⟨w.heap.size, 1, none⟩ = some (Value.slice none 0 0) := HSTr.out.cell 0 1 rfl rfl
                  have z0_1 : wr.frozen? ⟨w.heap.size, 1, none⟩ = false := HSTr.out.frozen 0 1 rfl
                  have l0_ : w.heap.size < wr.heap.size := HSTr.out.lt 0 rfl
                  have k1_0 : wr.cell? ⟨w1.heap.size, 0, none⟩ = some (Value.int .i64 b) := HSTr.out.cell 1 0 rfl rfl
                  have z1_0 : wr.frozen? ⟨w1.heap.size, 0, none⟩ = false := HSTr.out.frozen 1 0 rfl
                  have k1_1 : wr.cell? ⟨w1.heap.size, 1, none⟩ = some (Value.slice Ac csc.length cc) := HSTr.out.cell 1 1 rfl rfl
                  have z1_1 : wr.frozen? ⟨w1.heap.size, 1, none⟩ = false := HSTr.out.frozen 1 1 rfl
                  have l1_ : w1.heap.size < wr.heap.size := HSTr.out.lt 1 rfl
                  go_wp2
                  refine wp_region_still_tail 7 mixed (by kernel_rfl) ?_
                  simp only [List.take_succ_cons, List.take_zero, List.drop_succ_cons, List.drop_zero]
                  repeat still_step
                  still_call (HP.out _)
                  repeat still_step
                  refine wpStill_nil ?_
                  change wpList _ _ _ _ _ wr.drew
                  have HSTd := Lib.hid HSTr.out.drew
                  go_wp2_with fail
                  refine HM.out.mono ?_
                  rintro e w5 ⟨u5, rfl, ⟨A5, c5, rfl, hlc, hcm, hA5, hrd5⟩, hb5⟩
                  have HST41 := Lib.hid (HSTd.out.call hb5)
                  have hsz41 := hb5.size
                  clear k0_0 z0_0 k0_1 z0_1 l0_ k1_0 z1_0 k1_1 z1_1 l1_
                  have k0_0 : w5.cell? ⟨w.heap.size, 0, none⟩ = some (Value.int .i64 0) := HST41.out.cell 0 0 rfl rfl
                  have z0_0 : w5.frozen? ⟨w.heap.size, 0, none⟩ = false := HST41.out.frozen 0 0 rfl
                  have k0_1 : w5.cell? ⟨w.heap.size, 1, none⟩ = some (Value.slice none 0 0) := HST41.out.cell 0 1 rfl rfl
                  have z0_1 : w5.frozen? ⟨w.heap.size, 1, none⟩ = false := HST41.out.frozen 0 1 rfl
                  have l0_ : w.heap.size < w5.heap.size := HST41.out.lt 0 rfl
                  have k1_0 : w5.cell? ⟨w1.heap.size, 0, none⟩ = some (Value.int .i64 b) := HST41.out.cell 1 0 rfl rfl
                  have z1_0 : w5.frozen? ⟨w1.heap.size, 0, none⟩ = false := HST41.out.frozen 1 0 rfl
                  have k1_1 : w5.cell? ⟨w1.heap.size, 1, none⟩ = some (Value.slice Ac csc.length cc) := HST41.out.cell 1 1 rfl rfl
                  have z1_1 : w5.frozen? ⟨w1.heap.size, 1, none⟩ = false := HST41.out.frozen 1 1 rfl
                  have l1_ : w1.heap.size < w5.heap.size := HST41.out.lt 1 rfl
                  have hsz6 : wr.heap.size ≤ w5.heap.size := hb5.size
                  have HN := Lib.hid (show RExR w ((w5.setCell ⟨w1.heap.size, 0, none⟩ (.int .i64 b)).setCell ⟨w1.heap.size, 1, none⟩ (.slice A5 (moreL (bkt b (z)) 1 csc).length c5)) w1.heap.size b (LST ++ [z]) from by
                    refine ⟨A5, c5, moreL (bkt b (z)) 1 csc, ?_, HNH.out, ?_⟩
                    · exact St.setLast [(w.heap.size, Obj.cells #[Value.int .i64 0, Value.slice none 0 0] 24 (0, 0))] 1 _ (St.setLast [(w.heap.size, Obj.cells #[Value.int .i64 0, Value.slice none 0 0] 24 (0, 0))] 0 _ HST41.out (by simp; omega)) (by simp; omega)
                    · refine (hrd5.fr (may := fun i => i = w1.heap.size) (w' := _) ?_ (Nat.le_refl _) (fun i hi _ => by have : wr.heap.size ≤ i := hi; omega)).more (show w1.heap.size + 1 ≤ wr.heap.size by omega) ?_
                      · repeat (first | exact Fr.refl _ _ | (refine Fr.setCell ?_ (fun _ => by dsimp only) _))
                      · simp [World.setCell])
                  clear hlc hcm hA5 hrd5 hb5
                  clear k0_0 z0_0 k0_1 z0_1 l0_ k1_0 z1_0 k1_1 z1_1 l1_
                  obtain ⟨W6, hW6⟩ : ∃ W6, W6 = (w5.setCell ⟨w1.heap.size, 0, none⟩ (.int .i64 b)).setCell ⟨w1.heap.size, 1, none⟩ (.slice A5 (moreL (bkt b z) 1 csc).length c5) := ⟨_, rfl⟩
                  have k1_0 : w5.cell? ⟨w1.heap.size, 0, none⟩ = some (.int .i64 b) := HST41.out.cell 1 0 rfl rfl
                  have k1_1 : w5.cell? ⟨w1.heap.size, 1, none⟩ = some (.slice Ac csc.length cc) := HST41.out.cell 1 1 rfl rfl
                  have z1_0 : w5.frozen? ⟨w1.heap.size, 0, none⟩ = false := HST41.out.frozen 1 0 rfl
                  have z1_1 : w5.frozen? ⟨w1.heap.size, 1, none⟩ = false := HST41.out.frozen 1 1 rfl
                  have hcell5 : w5.cell? ⟨bk, o + j, none⟩ = some (.int .i64 z) := by
                    rw [HST41.out.below.cell (p := ⟨bk, o + j, none⟩) (by omega), ← HSTr.out.below.cell (p := ⟨bk, o + j, none⟩) (by omega)]; exact hcell
                  have hbne : bk ≠ w1.heap.size := by omega
                  go_wp2
                  rw [← hW6]
                  rw [← hW6] at HN
                  clear hW6 k1_0 k1_1 z1_0 z1_1 hcell5 hcell
                  go_loopw [13] (fun v wr => ∃ i : Nat, v = .int .i64 (eV z p i) ∧ 1 ≤ i ∧ i ≤ eN z p ∧ RExR w wr w1.heap.size b (LST ++ (expand z p).take i)) (fun v _ => (intOf v).toNat)
                  case atStart =>
                    refine ⟨1, ?_, by omega, by omega, ?_⟩
                    · rw [eV_succ, eV_zero]
                    · have e : (expand z p).take 1 = [z] := by rw [expand_take z p 0 (eN_pos z p)]; simp [eV_zero]
                      rw [e]; exact HN.out
                  case round =>
                    clear HN HSTr HSTd HST41
                    obtain ⟨i, rfl, hi1, hi2, hrel⟩ := hrel
                    have hev := eV_bd z p i hfz.1 hfz.2 (by omega) (by omega) hi2
                    have hmor := eV_more z p i (by omega) hi1
                    obtain ⟨LS2, hLS2⟩ : ∃ LS2, LS2 = LST ++ (expand z p).take i := ⟨_, rfl⟩
                    have hl2 : LS2.length = LST.length + i := by rw [hLS2]; simp [expand_length]; omega
                    have HF2 := Lib.hid (show ∀ v ∈ LS2, fineV v = true by
                      rw [hLS2]
                      intro v hv
                      rcases List.mem_append.1 hv with h | h
                      · exact HFIN.out v h
                      · exact expand_fine z p HFZ.out (by omega) v (List.mem_of_mem_take h))
                    rw [← hLS2] at hrel
                    obtain ⟨Ac, cc, csc, hst, hh, hrd⟩ := id hrel
                    have HREL := Lib.hid hrel
                    have HSTr := Lib.hid hst
                    have hl4 := hst.lt 1 rfl
                    clear hrel
                    by_cases hji : i < eN z p
                    · have hge : p ≤ eV z p i := hmor.2 hji
                      have hge' : decide (p ≤ eV z p i) = true := by simpa using hge
                      have HL2 := Lib.hid hLS2
                      have HHL2 := Lib.hid hl2
                      have HSC := Lib.hid (eV_succ z p i)
                      clear hmor hLS2 hl2
                      have hgc : csc.length ≤ 10000000 := by
                        have := hist_len hh (maxB b) (fun x hx => cntB_wf b (LS2) x hb2 hb8 HF2.out hx)
                        omega
                      have hcb := cntB_bd b (LS2)
                      have hnum := hist_num hh (fun x => by have := hcb x; have : (LS2).length ≤ 1000000 := (by rw [HHL2.out]; omega); omega)
                      have HM := Lib.hid (more_any b (bkt b (eV z p i)) 1 Ac cc csc wr.drew (hrd.more (Nat.zero_le _) (Nat.le_refl _)) hgc (by omega) (by omega) hnum)
                      have HP := Lib.hid (fun W => (place_any b (eV z p i) W hb2 hb8 (by omega) (by omega)).mono (fun _ _ h => And.intro h.1 h.2.symm))
                      have hnh := more_hist hh (fun x => (hcb x).1) (bkt b (eV z p i)) 1 (by omega)
                      rw [cntB_snoc] at hnh
                      have HNH := Lib.hid hnh
                      clear hh hrd hgc hnum hcb hnh hst
                      have k0_0 : wr.cell? ⟨w.heap.size, 0, none⟩ = some (Value.int .i64 0) := HSTr.out.cell 0 0 rfl rfl
                      have z0_0 : wr.frozen? ⟨w.heap.size, 0, none⟩ = false := HSTr.out.frozen 0 0 rfl
                      have k0_1 : wr.cell? ⟨w.heap.size, 1, none⟩ = some (Value.slice none 0 0) := HSTr.out.cell 0 1 rfl rfl
                      have z0_1 : wr.frozen? ⟨w.heap.size, 1, none⟩ = false := HSTr.out.frozen 0 1 rfl
                      have l0_ : w.heap.size < wr.heap.size := HSTr.out.lt 0 rfl
                      have k1_0 : wr.cell? ⟨w1.heap.size, 0, none⟩ = some (Value.int .i64 b) := HSTr.out.cell 1 0 rfl rfl
                      have z1_0 : wr.frozen? ⟨w1.heap.size, 0, none⟩ = false := HSTr.out.frozen 1 0 rfl
                      have k1_1 : wr.cell? ⟨w1.heap.size, 1, none⟩ = some (Value.slice Ac csc.length cc) := HSTr.out.cell 1 1 rfl rfl
                      have z1_1 : wr.frozen? ⟨w1.heap.size, 1, none⟩ = false := HSTr.out.frozen 1 1 rfl
                      have l1_ : w1.heap.size < wr.heap.size := HSTr.out.lt 1 rfl
                      go_wp2
                      refine wp_region_still_tail 4 mixed (by kernel_rfl) ?_
                      simp only [List.take_succ_cons, List.take_zero, List.drop_succ_cons, List.drop_zero]
                      repeat still_step
                      still_call (HP.out _)
                      repeat still_step
                      refine wpStill_nil ?_
                      change wpList _ _ _ _ _ wr.drew
                      have HSTd := Lib.hid HSTr.out.drew
                      go_wp2_with fail
                      refine HM.out.mono ?_
                      rintro e w5 ⟨u5, rfl, ⟨A5, c5, rfl, hlc, hcm, hA5, hrd5⟩, hb5⟩
                      have HST51 := Lib.hid (HSTd.out.call hb5)
                      have hsz51 := hb5.size
                      clear k0_0 z0_0 k0_1 z0_1 l0_ k1_0 z1_0 k1_1 z1_1 l1_
                      have k0_0 : w5.cell? ⟨w.heap.size, 0, none⟩ = some (Value.int .i64 0) := HST51.out.cell 0 0 rfl rfl
                      have z0_0 : w5.frozen? ⟨w.heap.size, 0, none⟩ = false := HST51.out.frozen 0 0 rfl
                      have k0_1 : w5.cell? ⟨w.heap.size, 1, none⟩ = some (Value.slice none 0 0) := HST51.out.cell 0 1 rfl rfl
                      have z0_1 : w5.frozen? ⟨w.heap.size, 1, none⟩ = false := HST51.out.frozen 0 1 rfl
                      have l0_ : w.heap.size < w5.heap.size := HST51.out.lt 0 rfl
                      have k1_0 : w5.cell? ⟨w1.heap.size, 0, none⟩ = some (Value.int .i64 b) := HST51.out.cell 1 0 rfl rfl
                      have z1_0 : w5.frozen? ⟨w1.heap.size, 0, none⟩ = false := HST51.out.frozen 1 0 rfl
                      have k1_1 : w5.cell? ⟨w1.heap.size, 1, none⟩ = some (Value.slice Ac csc.length cc) := HST51.out.cell 1 1 rfl rfl
                      have z1_1 : w5.frozen? ⟨w1.heap.size, 1, none⟩ = false := HST51.out.frozen 1 1 rfl
                      have l1_ : w1.heap.size < w5.heap.size := HST51.out.lt 1 rfl
                      have hsz6 : wr.heap.size ≤ w5.heap.size := hb5.size
                      have HN := Lib.hid (show RExR w ((w5.setCell ⟨w1.heap.size, 0, none⟩ (.int .i64 b)).setCell ⟨w1.heap.size, 1, none⟩ (.slice A5 (moreL (bkt b (eV z p i)) 1 csc).length c5)) w1.heap.size b (LS2 ++ [eV z p i]) from by
                        refine ⟨A5, c5, moreL (bkt b (eV z p i)) 1 csc, ?_, HNH.out, ?_⟩
                        · exact St.setLast [(w.heap.size, Obj.cells #[Value.int .i64 0, Value.slice none 0 0] 24 (0, 0))] 1 _ (St.setLast [(w.heap.size, Obj.cells #[Value.int .i64 0, Value.slice none 0 0] 24 (0, 0))] 0 _ HST51.out (by simp; omega)) (by simp; omega)
                        · refine (hrd5.fr (may := fun i => i = w1.heap.size) (w' := _) ?_ (Nat.le_refl _) (fun i hi _ => by have : wr.heap.size ≤ i := hi; omega)).more (show w1.heap.size + 1 ≤ wr.heap.size by omega) ?_
                          · repeat (first | exact Fr.refl _ _ | (refine Fr.setCell ?_ (fun _ => by dsimp only) _))
                          · simp [World.setCell])
                      clear hlc hcm hA5 hrd5 hb5
                      go_wp2
                      go_roundw
                      case rel =>
                        refine ⟨i + 1, by rw [HSC.out], by omega, by omega, ?_⟩
                        rw [expand_take z p i hji, ← List.append_assoc, ← HL2.out]
                        exact HN.out
                      case measure => simp [intOf]; omega
                    · have hge' : decide (p ≤ eV z p i) = false := by simp; omega
                      have HNX := Lib.hid (show RExR w wr w1.heap.size b (expAll (zs.take (j + 1)) p) by
                        rw [HET.out, ← expand_full z p, ← show i = eN z p by omega, ← hLS2]; exact HREL.out)
                      clear hmor hLS2 hl2 hst hh hrd
                      go_wp2
                      go_roundw
                      case rel => exact ⟨j + 1, by go_num, by omega, HNX.out⟩
                      case measure => simp [intOf]; omega
                · have htk2 : LST = expAll zs p := by rw [hLST, show zs.take j = zs from List.take_of_length_le (by have := HL.out; omega)]
                  rw [htk2] at hh
                  have HH := Lib.hid hh
                  have HRD2 := Lib.hid hrd
                  clear hh hrd htk2 hLST hst
                  clear k0_0 z0_0 k0_1 z0_1 l0_
                  have k0_0 : wr.cell? ⟨w.heap.size, 0, none⟩ = some (Value.int .i64 0) := HSTr.out.cell 0 0 rfl rfl
                  have z0_0 : wr.frozen? ⟨w.heap.size, 0, none⟩ = false := HSTr.out.frozen 0 0 rfl
                  have k0_1 : wr.cell? ⟨w.heap.size, 1, none⟩ = some (Value.slice none 0 0) := HSTr.out.cell 0 1 rfl rfl
                  have z0_1 : wr.frozen? ⟨w.heap.size, 1, none⟩ = false := HSTr.out.frozen 0 1 rfl
                  have l0_ : w.heap.size < wr.heap.size := HSTr.out.lt 0 rfl
                  have k1_0 : wr.cell? ⟨w1.heap.size, 0, none⟩ = some (Value.int .i64 b) := HSTr.out.cell 1 0 rfl rfl
                  have z1_0 : wr.frozen? ⟨w1.heap.size, 0, none⟩ = false := HSTr.out.frozen 1 0 rfl
                  have k1_1 : wr.cell? ⟨w1.heap.size, 1, none⟩ = some (Value.slice Ac csc.length cc) := HSTr.out.cell 1 1 rfl rfl
                  have z1_1 : wr.frozen? ⟨w1.heap.size, 1, none⟩ = false := HSTr.out.frozen 1 1 rfl
                  have l1_ : w1.heap.size < wr.heap.size := HSTr.out.lt 1 rfl
                  go_wp2
                  refine bodyPost_ret (v := .tuple #[.agg #[.int .i64 b, .slice Ac csc.length cc], .int .i64 0]) (by simp [results, Tryd.results26, go_sem, k0_0, k0_1, k1_0, k1_1]) rfl (HistPost.some HCC.out HH.out HRD2.out (by omega) HSTr.out.below ?_)
                  repeat (first | exact Fr.refl _ _ | (refine Fr.setCell ?_ (fun _ => by dsimp only; omega) _))
            · have hs2 : decide (1000000 < sumE zs p) = true := by simp; omega
              have HCC := Lib.hid (codeE_size HCV.out (by omega) (by omega) (show 1000000 < sumE zs p by omega))
              clear htk
              go_wp2
              refine bodyPost_ret (v := .tuple #[.agg #[.int .i64 0, .slice none 0 0], .int .i64 (3)]) (by simp [results, Tryd.results26, go_sem, k0_0, k0_1]) rfl (HistPost.none (by omega) HCC.out ?_)
              repeat (first | exact HST1.out.below | (refine Below.setCell ?_ (by dsimp only; omega) _))
  · have hcv' : (codeV b n zs != 0) = true := by simp [hcv]
    have HCC := Lib.hid (show codeE b n zs p = codeV b n zs by unfold codeE; rw [if_pos hcv])
    have HCH := Lib.hid hcv
    clear hcv
    go_wp2
    refine bodyPost_ret (v := .tuple #[.agg #[.int .i64 0, .slice none 0 0], .int .i64 (codeV b n zs)]) (by simp [results, Tryd.results26, go_sem, k0_0, k0_1]) rfl (HistPost.none (HCH.out) HCC.out ?_)
    repeat (first | exact HST1.out.below | (refine Below.setCell ?_ (by dsimp only; omega) _))
end Go.Proofs.YtgmbgclhljobaaaDoor
