/- Package dynamometerref7: Area. -/
import Derived.Test.YtepfmoaihhonlaaGreatDoorRRatio
import Derived.Test.YtepfmoaihhonlaaGreatDoorR7Stage
import Derived.Test.YtepfmoaihhonlaaGreatDoorGLine
namespace Go.Proofs.YtepfmoaihhonlaaGreatDoor
open Go Go.RowKit Go.Proofs

theorem r7Total_any (A : Option Addr) (c : Nat) (l : List (Int × Int × Int)) (w : World) (hr : Rd w 0 w.heap.size 3 A l.length (cells3 l)) (hl : l.length ≤ 1000) (hok : ∀ s ∈ l, OkS s) :
    Calls Tryz.prog 56 #[.slice A l.length c] w fun e w' => e = .returned (.int .i64 (lenS l)) ∧ Below w.heap.size w w' :=
  (r7total_any A c l w hr hl hok).mono fun _ _ ⟨h1, h2⟩ => ⟨h1, h2 ▸ Below.refl _ _⟩
theorem ne_of_ok {l : List (Int × Int × Int)} (h : OkL l) : l ≠ [] := fun e => by have := h.ne; rw [e] at this; simp at this
theorem area_low {l : List (Int × Int × Int)} (hok : OkL l) (t : Nat) : frS (arQ l t) = false ∧ ratOf (ratQ (arQ l t)) = ratV ((place l t).2.1.num (place l t).1 (place l t).2.2) (place l t).2.1.den := by
  have e : arQ l t = (((place l t).2.1.num (place l t).1 (place l t).2.2 : Nat) : Rat) / (((place l t).2.1.den : Nat) : Rat) := by
    have h := arQ_plQ l 0 t (ne_of_ok hok) hok.ok (by omega)
    have h0 : (((0 : Nat) : Rat) / 2000000000) = 0 := by rw [Rat.div_def, show ((0 : Nat) : Rat) = 0 from rfl, Rat.zero_mul]
    rw [h0, Rat.zero_add] at h
    rw [h]; rfl
  obtain ⟨_, h3, _, _⟩ := upto_small hok t
  have hd : 0 < (place l t).2.1.den := by unfold Stg.den; omega
  rw [e]
  exact ⟨(rat_low _ _ hd).1, by rw [ratQ_div _ _ hd]; rfl⟩
theorem Sz.mono {n m : Nat} {q : Rat} (h : Sz n q) (hnm : n ≤ m) : Sz m q :=
  ⟨Nat.lt_of_lt_of_le h.1 (Nat.pow_le_pow_right (by unfold T4; omega) hnm), Nat.lt_of_lt_of_le h.2 (Nat.pow_le_pow_right (by unfold T4; omega) hnm)⟩

set_option maxHeartbeats 2000000 in
set_option maxRecDepth 100000 in
theorem r7AreaP_ok (A : Option Addr) (c : Nat) (l : List (Int × Int × Int)) (t : Nat) (w : World) (hr : Rd w 0 w.heap.size 3 A l.length (cells3 l)) (hok : OkL l) (ht : (t : Int) ≤ lenS l) (htab : Tab w.heap.size w) :
    Calls Tryz.prog 18 #[.slice A l.length c, .int .i64 t] w fun e w' => e = .returned (.tuple #[ratV ((place l t).2.1.num (place l t).1 (place l t).2.2) (place l t).2.1.den, .int .i64 0]) ∧ Below w.heap.size w w' := by
  have htm := hok.sum
  have hle := hok.le
  have HCK := Lib.hid (fun (W : World) (hb : Below w.heap.size w W) => r7Check_any A c l W (hr.old hb) (by omega))
  have HLN := Lib.hid (fun (W : World) (hb : Below w.heap.size w W) => r7Total_any A c l W (hr.old hb) (by omega) hok.ok)
  have HAT := Lib.hid (fun (W : World) (hb : Below w.heap.size w W) => r7Area_any A c l t W (hr.old hb) (by omega) hok.ok (by omega))
  obtain ⟨hneg, hV⟩ := area_low hok t
  have HRT := Lib.hid (fun (W : World) u (hu : FracR W u (arQ l t)) (hz : Sz 1501 (arQ l t)) (hb : Below w.heap.size w W) => r7ratio_any u (arQ l t) W hu hneg (hz.mono (by omega)) ((htab.on hb).mono hb.size))
  rw [hV] at HRT
  rw [show codeS l = 0 from hok.code] at HCK
  have b1 : decide ((t : Int) < 0) = false := by simp
  have b2 : decide (lenS l < (t : Int)) = false := by simpa using ht
  have b3 : ¬ lenS l < (t : Int) := by omega
  obtain ⟨W0, hW0⟩ : ∃ W0, W0 = w.alloc (.cells #[.string ⟨#[]⟩, .string ⟨#[]⟩] 31) := ⟨_, rfl⟩
  have HST0 := Lib.hid (show St w W0 [(w.heap.size, .cells #[.string ⟨#[]⟩, .string ⟨#[]⟩] 31 (0, 0))] by rw [hW0]; exact (St.start w).alloc _ _ rfl)
  obtain ⟨N, hN⟩ : ∃ N, N = (place l t).2.1.num (place l t).1 (place l t).2.2 := ⟨_, rfl⟩
  obtain ⟨D, hD⟩ : ∃ D, D = (place l t).2.1.den := ⟨_, rfl⟩
  rw [← hN, ← hD] at HRT ⊢
  obtain ⟨q, hq⟩ : ∃ q, q = arQ l t := ⟨_, rfl⟩
  rw [← hq] at HRT HAT
  unfold ratV ratOf at HRT
  clear hN hD hok htab hr hneg hV hq
  go_enter Tryz.func18, Tryz.ntmps18
  go_wp2_with fail
  rw [← hW0]
  clear hW0
  (with_reducible refine (HCK.out W0 HST0.out.below).mono ?_)
  rintro e w1 ⟨rfl, hb1⟩
  have HST1 := Lib.hid (HST0.out.call hb1)
  clear hb1
  go_wp2_with fail
  (with_reducible refine (HLN.out w1 HST1.out.below).mono ?_)
  rintro e w2 ⟨rfl, hb2⟩
  have HST2 := Lib.hid (HST1.out.call hb2)
  clear hb2
  go_wp2_with fail
  (with_reducible refine (HAT.out w2 HST2.out.below).mono ?_)
  rintro e w3 ⟨⟨v, rfl, hv, hb3⟩, hz⟩
  have HST3 := Lib.hid (HST2.out.call hb3)
  have HR := Lib.hid (HRT.out w3 v hv hz HST3.out.below)
  clear hb3 hv hz
  go_wp2_with fail
  (with_reducible refine HR.out.mono ?_)
  rintro e w8 ⟨rfl, hb8⟩
  have hST8 := HST3.out.call hb8
  have r0 := hST8.cell 0 0 rfl rfl
  have r1 := hST8.cell 0 1 rfl rfl
  have z0 := hST8.frozen 0 0 rfl
  have z1 := hST8.frozen 0 1 rfl
  have HFIN := Lib.hid ((hST8.below.setCell (p := ⟨w.heap.size, 0, none⟩) (Nat.le_refl _) (.string ⟨(ratS N D).1.toArray⟩)).setCell (p := ⟨w.heap.size, 1, none⟩) (Nat.le_refl _) (.string ⟨(ratS N D).2.toArray⟩))
  clear hb8 hST8
  go_wp2
  refine bodyPost_ret (v := .tuple #[ratOf (ratS N D), .int .i64 0]) ?_ rfl ⟨rfl, HFIN.out⟩
  simp [results, Tryz.results18, go_sem, r0, r1, ratOf]
-- ANY
set_option maxHeartbeats 2000000 in
set_option maxRecDepth 100000 in
theorem r7AreaP_any (A : Option Addr) (c : Nat) (l : List (Int × Int × Int)) (t : Int) (w : World) (hr : Rd w 0 w.heap.size 3 A l.length (cells3 l)) (hl : l.length ≤ 9223372036854775807) (htl : t ≤ 9223372036854775807) (htab : Tab w.heap.size w) :
    Calls Tryz.prog 18 #[.slice A l.length c, .int .i64 t] w fun e w' => e = .returned (.tuple #[ratOf (areaP l t), .int .i64 (rngC l t)]) ∧ Below w.heap.size w w' := by
  have HCK := Lib.hid (fun (W : World) (hb : Below w.heap.size w W) => r7Check_any A c l W (hr.old hb) hl)
  obtain ⟨W0, hW0⟩ : ∃ W0, W0 = w.alloc (.cells #[.string ⟨#[]⟩, .string ⟨#[]⟩] 31) := ⟨_, rfl⟩
  have HST0 := Lib.hid (show St w W0 [(w.heap.size, .cells #[.string ⟨#[]⟩, .string ⟨#[]⟩] 31 (0, 0))] by rw [hW0]; exact (St.start w).alloc _ _ rfl)
  by_cases hc : codeS l = 0
  · have hok := codeS_ok hc
    rw [hc] at HCK
    by_cases h0 : t < 0
    · have HV := Lib.hid (show ratOf (areaP l t) = .agg #[.string ⟨#[]⟩, .string ⟨#[]⟩] ∧ rngC l t = 9 by
        have e : rngC l t = 9 := by unfold rngC; rw [if_neg (by omega), if_pos h0]
        exact ⟨by unfold areaP; rw [if_pos (by omega)]; rfl, e⟩)
      have b1 : decide (t < 0) = true := by simpa using h0
      clear hok hc hr htab
      go_enter Tryz.func18, Tryz.ntmps18
      go_wp2_with fail
      rw [← hW0]
      clear hW0
      (with_reducible refine (HCK.out W0 HST0.out.below).mono ?_)
      rintro e w1 ⟨rfl, hb1⟩
      have hST1 := HST0.out.call hb1
      have r0 := hST1.cell 0 0 rfl rfl
      have r1 := hST1.cell 0 1 rfl rfl
      have z0 := hST1.frozen 0 0 rfl
      have z1 := hST1.frozen 0 1 rfl
      have HFIN := Lib.hid ((hST1.below.setCell (p := ⟨w.heap.size, 0, none⟩) (Nat.le_refl _) (.string ⟨#[]⟩)).setCell (p := ⟨w.heap.size, 1, none⟩) (Nat.le_refl _) (.string ⟨#[]⟩))
      clear hb1 hST1
      go_wp2
      refine bodyPost_ret (v := .tuple #[.agg #[.string ⟨#[]⟩, .string ⟨#[]⟩], .int .i64 9]) ?_ rfl ⟨by rw [HV.out.1, HV.out.2], HFIN.out⟩
      simp [results, Tryz.results18, go_sem, r0, r1]
    · by_cases h1 : lenS l < t
      · have HV := Lib.hid (show ratOf (areaP l t) = .agg #[.string ⟨#[]⟩, .string ⟨#[]⟩] ∧ rngC l t = 9 by
          have e : rngC l t = 9 := by unfold rngC; rw [if_neg (by omega), if_neg h0, if_pos h1]
          exact ⟨by unfold areaP; rw [if_pos (by omega)]; rfl, e⟩)
        have b1 : decide (t < 0) = false := by simpa using h0
        have b2 : decide (lenS l < t) = true := by simpa using h1
        have HLN := Lib.hid (fun (W : World) (hb : Below w.heap.size w W) => r7Total_any A c l W (hr.old hb) (by have := hok.le; omega) hok.ok)
        clear hok hc hr htab
        go_enter Tryz.func18, Tryz.ntmps18
        go_wp2_with fail
        rw [← hW0]
        clear hW0
        (with_reducible refine (HCK.out W0 HST0.out.below).mono ?_)
        rintro e w1 ⟨rfl, hb1⟩
        have HST1 := Lib.hid (HST0.out.call hb1)
        clear hb1
        go_wp2_with fail
        (with_reducible refine (HLN.out w1 HST1.out.below).mono ?_)
        rintro e w2 ⟨rfl, hb2⟩
        have hST1 := HST1.out.call hb2
        have r0 := hST1.cell 0 0 rfl rfl
        have r1 := hST1.cell 0 1 rfl rfl
        have z0 := hST1.frozen 0 0 rfl
        have z1 := hST1.frozen 0 1 rfl
        have HFIN := Lib.hid ((hST1.below.setCell (p := ⟨w.heap.size, 0, none⟩) (Nat.le_refl _) (.string ⟨#[]⟩)).setCell (p := ⟨w.heap.size, 1, none⟩) (Nat.le_refl _) (.string ⟨#[]⟩))
        clear hb2 hST1
        go_wp2
        refine bodyPost_ret (v := .tuple #[.agg #[.string ⟨#[]⟩, .string ⟨#[]⟩], .int .i64 9]) ?_ rfl ⟨by rw [HV.out.1, HV.out.2], HFIN.out⟩
        simp [results, Tryz.results18, go_sem, r0, r1]
      · obtain ⟨k, rfl⟩ : ∃ k : Nat, t = k := ⟨t.toNat, by omega⟩
        have e : rngC l k = 0 := rngC_ok hc (by omega) (by omega)
        refine (r7AreaP_ok A c l k w hr hok (by omega) htab).mono ?_
        rintro e' w' ⟨rfl, hb⟩
        exact ⟨by unfold areaP; rw [if_neg (by omega), e]; rfl, hb⟩
  · have HV := Lib.hid (show ratOf (areaP l t) = .agg #[.string ⟨#[]⟩, .string ⟨#[]⟩] ∧ rngC l t = codeS l by
      have e : rngC l t = codeS l := by unfold rngC; rw [if_pos hc]
      exact ⟨by unfold areaP; rw [if_pos (by omega)]; rfl, e⟩)
    obtain ⟨cc, hcc⟩ : ∃ cc, cc = codeS l := ⟨_, rfl⟩
    rw [← hcc] at HCK HV hc
    have t1 : (cc != 0) = true := by simpa using hc
    clear hcc hr htab
    go_enter Tryz.func18, Tryz.ntmps18
    go_wp2_with fail
    rw [← hW0]
    clear hW0
    (with_reducible refine (HCK.out W0 HST0.out.below).mono ?_)
    rintro e w1 ⟨rfl, hb1⟩
    have hST1 := HST0.out.call hb1
    have r0 := hST1.cell 0 0 rfl rfl
    have r1 := hST1.cell 0 1 rfl rfl
    have z0 := hST1.frozen 0 0 rfl
    have z1 := hST1.frozen 0 1 rfl
    have HFIN := Lib.hid ((hST1.below.setCell (p := ⟨w.heap.size, 0, none⟩) (Nat.le_refl _) (.string ⟨#[]⟩)).setCell (p := ⟨w.heap.size, 1, none⟩) (Nat.le_refl _) (.string ⟨#[]⟩))
    clear hb1 hST1
    go_wp2
    refine bodyPost_ret (v := .tuple #[.agg #[.string ⟨#[]⟩, .string ⟨#[]⟩], .int .i64 cc]) ?_ rfl ⟨by rw [HV.out.1, HV.out.2], HFIN.out⟩
    simp [results, Tryz.results18, go_sem, r0, r1]
end Go.Proofs.YtepfmoaihhonlaaGreatDoor
