/- Package dynamometerref7: grown. Printed by gen_grown.py. -/
import Derived.Test.YtkoodmoilfgafaaDoorR7Area
import Derived.Test.YtkoodmoilfgafaaDoorRAdmMath
namespace Go.Proofs.YtkoodmoilfgafaaDoor
open Go Go.RowKit Go.Proofs

theorem T4_6 : T4 ^ 6 = 1000000000000000000000000 := by unfold T4; rfl
theorem bil_sz {x : Int} (h0 : -1000000000000000000 ≤ x) (h1 : x ≤ 1000000000000000000) : Sz 5 (bil x) := sz_part (by omega) (by rw [T4_5]; omega) (by rw [T4_5]; omega)
theorem bil_min (b x : Int) : bil (min b x) = if b < x then bil b else bil x := by
  split
  · rw [show min b x = b by omega]
  · rw [show min b x = x by omega]
set_option maxHeartbeats 4000000 in
set_option maxRecDepth 100000 in
theorem r7Grown_any (u : Value) (h r d b : Int) (w : World) (hu : FracR w u (bil h)) (h0 : 0 ≤ h) (h1 : h ≤ 1000000000000000) (r0 : 0 ≤ r) (r1 : r ≤ 1000000000) (d0 : 0 ≤ d) (d1 : d ≤ 10000000000000) (b0 : 1 ≤ b) (b1 : b ≤ 1000000) :
    Calls Tryd.prog 56 #[u, .int .i64 d, .int .i64 r, .int .i64 b] w (FracPost (bil (min (b * 1000000000) (h + r * d))) w) := by
  obtain ⟨A1, c1, l1, A2, c2, l2, rfl, hu1, hu2⟩ := hu
  obtain ⟨W0, hW0⟩ : ∃ W0, W0 = (w.alloc (.cells #[.bool (frS (bil h)), .slice A1 l1.length c1, .slice A2 l2.length c2] 74)).alloc (.cells #[.bool false, .slice none 0 0, .slice none 0 0] 74) := ⟨_, rfl⟩
  have HST0 := Lib.hid (show St w W0 [(w.heap.size, .cells #[.bool (frS (bil h)), .slice A1 l1.length c1, .slice A2 l2.length c2] 74 (0, 0)), (w.heap.size + 1, .cells #[.bool false, .slice none 0 0, .slice none 0 0] 74 (0, 0))] by rw [hW0]; exact ((St.start w).alloc _ _ rfl).alloc _ _ (by simp))
  have HX0 := Lib.hid (show FBox W0 (w.heap.size + 1) from HST0.out.at 1 rfl)
  have hU1 := hu1.on HST0.out.below
  have hU2 := hu2.on HST0.out.below
  have HFH := Lib.hid (show ∀ W, Below W0.heap.size W0 W → FracR W (.agg #[.bool (frS (bil h)), .slice A1 l1.length c1, .slice A2 l2.length c2]) (bil h) from fun W hW => ⟨A1, c1, l1, A2, c2, l2, rfl, hU1.on hW, hU2.on hW⟩)
  have HWR := Lib.hid (fun W => rWhole_any r W (by omega) (by omega))
  have HWB := Lib.hid (fun W => rWhole_any b W (by omega) (by omega))
  have HPD := Lib.hid (fun W => rPart_any d 1000000000 W (by omega) (by omega) (by omega) (by omega))
  have hT := T4_5
  have z1 : Sz 5 (r : Rat) := sz_int (by omega) (by rw [T4_5]; omega)
  have z2 : Sz 5 (mkRat d (1000000000 : Int).toNat) := sz_part (by decide) (by rw [T4_5]; omega) (by rw [T4_5]; decide)
  have z3 := bil_sz (x := h) (by omega) (by omega)
  have z4 : Sz 5 (b : Rat) := sz_int (by omega) (by rw [T4_5]; omega)
  have HTM := Lib.hid (fun W u v hu hv => rTimes_any 5 u v _ _ W (by omega) hu hv z1 z2)
  have HPL := Lib.hid (fun W u v hu hv => rPlus_any 10 u v (bil h) ((r : Rat) * mkRat d (1000000000 : Int).toNat) W (by omega) hu hv (sz_mono z3 (by omega)) (sz_mul z1 z2))
  have z5 : Sz 16 (bil (h + r * d)) := by rw [← bil_plus]; exact sz_add z3 (sz_mul z1 z2)
  rw [show bil h + (r : Rat) * mkRat d (1000000000 : Int).toNat = bil (h + r * d) from bil_plus h r d] at HPL
  have HOR := Lib.hid (fun W u v hu hv => rOrder_any 16 u v (bil (h + r * d)) (b : Rat) W (by omega) hu hv z5 (sz_mono z4 (by omega)))
  have HZ := Lib.hid z5
  clear hu1 hu2 hU1 hU2 z1 z2 z3 z4 z5 hT
  go_enter Tryd.func56, Tryd.ntmps56
  go_upto_region 1 with fail
  rw [← hW0]
  clear hW0
  have HKS := Lib.hid (show ∀ X, Below W0.heap.size W0 X → (fun X => Below W0.heap.size W0 X ∧ X.cell? ⟨w.heap.size, 0, none⟩ = some (.bool (frS (bil h))) ∧ X.cell? ⟨w.heap.size, 1, none⟩ = some (.slice A1 l1.length c1) ∧ X.cell? ⟨w.heap.size, 2, none⟩ = some (.slice A2 l2.length c2)) X from fun X hX => ⟨hX, (HST0.out.call hX).cell 0 0 rfl rfl, (HST0.out.call hX).cell 0 1 rfl rfl, (HST0.out.call hX).cell 0 2 rfl rfl⟩)
  obtain ⟨_, g0, g1, g2⟩ := HKS.out W0 (Below.refl _ _)
  go_cut [9] from 10 (fun v wx => ∃ B, v = .pointer (some ⟨B, 0, none⟩) ∧ VarQ wx B (bil (h + r * d)) ∧ Below W0.heap.size W0 wx)
  case first =>
    go_region_held3 (fun X => Below W0.heap.size W0 X ∧ X.cell? ⟨w.heap.size, 0, none⟩ = some (.bool (frS (bil h))) ∧ X.cell? ⟨w.heap.size, 1, none⟩ = some (.slice A1 l1.length c1) ∧ X.cell? ⟨w.heap.size, 2, none⟩ = some (.slice A2 l2.length c2))
      (first
        | exact HKS.out _ (Below.refl _ W0).drew
        | exact HKS.out _ ((Below.refl _ W0).alloc (Nat.le_refl _) _).drew
        | (go_split_ands; refine HKS.out _ (below_next ?_ hb3); assumption)
        | (go_split_ands; refine HKS.out _ (below_next ?_ hb4); assumption)
        | (go_split_ands; refine HKS.out _ (below_next ?_ hb5); assumption)
        | (go_split_ands; refine HKS.out _ (below_next ?_ hb6); assumption)
        | (go_split_ands; refine HKS.out _ (below_next ?_ ((Below.refl _ _).alloc (Nat.le_refl _) _)); assumption)
        | (go_split_ands; refine HKS.out _ (below_realloc (Z := .cells #[.bool false, .slice none 0 0, .slice none 0 0] 74) ?_ (by omega)); assumption)
        | (go_split_ands; exact HKS.out _ (((Below.setCell (by assumption) (by show W0.heap.size ≤ _; first | exact Nat.le_refl _ | (dsimp only; omega) | omega) _).setCell (by show W0.heap.size ≤ _; first | exact Nat.le_refl _ | (dsimp only; omega) | omega) _).setCell (by show W0.heap.size ≤ _; first | exact Nat.le_refl _ | (dsimp only; omega) | omega) _)))
      (first
        | (go_at_call 55; (with_reducible refine (HWR.out _).mono ?_); rintro e w3 ⟨v3, rfl, hv3, hb3⟩; have s3 : W0.heap.size ≤ w3.heap.size := (by first | exact hb3.size | exact Nat.le_trans (Nat.le_of_lt (by simp)) hb3.size | exact Nat.le_trans (Nat.le_succ _) hb3.size))
        | (go_at_call 60; (with_reducible refine (HPD.out _).mono ?_); rintro e w4 ⟨v4, rfl, hv4, hb4⟩; have s4 : w3.heap.size ≤ w4.heap.size := (by first | exact hb4.size | exact Nat.le_trans (Nat.le_of_lt (by simp)) hb4.size | exact Nat.le_trans (Nat.le_succ _) hb4.size); have o4 : ∀ {v : Value} {q : Rat}, FracR w3 v q → FracR w4 v q := (fun h => by first | exact h.on hb4 | exact (h.on ((Below.refl _ _).alloc (Nat.le_refl _) _)).on hb4))
        | (go_at_call 58; (with_reducible refine (HTM.out _ v3 v4 ?_ ?_).mono ?_); (first | exact o4 (hv3) | exact FracR.on (o4 (hv3)) ((Below.refl _ _).alloc (Nat.le_refl _) _)); (first | exact hv4 | exact FracR.on (hv4) ((Below.refl _ _).alloc (Nat.le_refl _) _)); rintro e w5 ⟨v5, rfl, hv5, hb5⟩; have s5 : w4.heap.size ≤ w5.heap.size := (by first | exact hb5.size | exact Nat.le_trans (Nat.le_of_lt (by simp)) hb5.size | exact Nat.le_trans (Nat.le_succ _) hb5.size); have o5 : ∀ {v : Value} {q : Rat}, FracR w4 v q → FracR w5 v q := (fun h => by first | exact h.on hb5 | exact (h.on ((Below.refl _ _).alloc (Nat.le_refl _) _)).on hb5))
        | (go_at_call 63; (with_reducible refine (HPL.out _ _ v5 ?_ ?_).mono ?_); exact HFH.out _ (by go_split_ands; assumption); (first | exact hv5 | exact FracR.on (hv5) ((Below.refl _ _).alloc (Nat.le_refl _) _)); rintro e w6 ⟨_, rfl, ⟨A7, c7, l7, A8, c8, l8, rfl, h7, h8⟩, hb6⟩; have s6 : w5.heap.size ≤ w6.heap.size := (by first | exact hb6.size | exact Nat.le_trans (Nat.le_of_lt (by simp)) hb6.size | exact Nat.le_trans (Nat.le_succ _) hb6.size); (first | (have HBX := (FBox.on (alloc_at w5 _ _ rfl : FBox (w5.alloc (.cells #[.bool false, .slice none 0 0, .slice none 0 0] 74)) w5.heap.size) hb6)) | (have HBX := (FBox.on (FBox.on (alloc_at w4 _ _ rfl : FBox (w4.alloc (.cells #[.bool false, .slice none 0 0, .slice none 0 0] 74)) w4.heap.size) hb5) hb6)) | (have HBX := (FBox.on (FBox.on (FBox.on (alloc_at w3 _ _ rfl : FBox (w3.alloc (.cells #[.bool false, .slice none 0 0, .slice none 0 0] 74)) w3.heap.size) hb4) hb5) hb6)) | (have HBX := (FBox.on (FBox.on (FBox.on (FBox.on (show FBox ((W0.alloc (.cells #[.bool false, .slice none 0 0, .slice none 0 0] 74)).drew) W0.heap.size from alloc_at W0 _ _ rfl) hb3) hb4) hb5) hb6)) | have HBX := True.intro); (try obtain ⟨p0, p1, p2, z0, z1, z2, hlt⟩ := HBX.facts)))
    all_goals go_wp2_with fail
    all_goals go_meet
    all_goals first
      | exact ⟨_, rfl, varq_set HBX (by simp) h7 h8, by go_split_ands; assumption⟩
      | exact ⟨_, rfl, ⟨A7, c7, l7, A8, c8, l8, alloc_at _ _ _ rfl, h7.on ((Below.refl _ _).alloc (Nat.le_refl _) _), h8.on ((Below.refl _ _).alloc (Nat.le_refl _) _)⟩, by go_split_ands; assumption⟩
  case rest =>
    obtain ⟨B9, rfl, hv9, hbc⟩ := hcut
    obtain ⟨A9, c9, l9, A0, c0, l0, e9, n9, n0⟩ := hv9
    have HBC := Lib.hid hbc
    have HE9 := Lib.hid e9
    have HN9 := Lib.hid n9
    have HN0 := Lib.hid n0
    obtain ⟨q, hq⟩ : ∃ q, q = bil (h + r * d) := ⟨_, rfl⟩
    obtain ⟨od, hod⟩ : ∃ od, od = ordQ (bil (h + r * d)) (b : Rat) := ⟨_, rfl⟩
    have HRES := Lib.hid (show bil (min (b * 1000000000) (h + r * d)) = if 0 < od then (b : Rat) else bil (h + r * d) by
      rw [bil_min, hod, bil_whole b, bil_ord]
      by_cases g1 : h + r * d < b * 1000000000
      · rw [if_pos g1, if_neg (by omega), if_neg (by omega)]
      · rw [if_neg g1]
        by_cases g2 : h + r * d = b * 1000000000
        · rw [if_pos g2, if_neg (by omega), if_neg (by omega)]
        · rw [if_neg g2, if_pos (by omega), if_pos (by omega)])
    rw [← hod] at HOR
    rw [← hq] at HOR HRES e9 n9 n0 HE9 HN9 HN0
    have HFQ := Lib.hid (show ∀ W, Below wc.heap.size wc W → FracR W (.agg #[.bool (frS q), .slice A9 l9.length c9, .slice A0 l0.length c0]) q from fun W hW => ⟨A9, c9, l9, A0, c0, l0, rfl, n9.on hW, n0.on hW⟩)
    have HKS2 := Lib.hid (show ∀ X, Below wc.heap.size wc X → (fun X => Below wc.heap.size wc X ∧ X.cell? ⟨B9, 0, none⟩ = some (.bool (frS (q))) ∧ X.cell? ⟨B9, 1, none⟩ = some (.slice A9 l9.length c9) ∧ X.cell? ⟨B9, 2, none⟩ = some (.slice A0 l0.length c0)) X from fun X hX => by
      have e := (hX.block B9 (heap_lt HE9.out)).trans HE9.out
      exact ⟨hX, by rw [cellsAt e]; rfl, by rw [cellsAt e]; rfl, by rw [cellsAt e]; rfl⟩)
    obtain ⟨_, f0, f1, f2⟩ := HKS2.out wc (Below.refl _ _)
    clear g0 g1 g2 hbc e9 n9 n0 hq hod
    go_upto_region 2 with fail
    go_region_held3 (fun X => Below wc.heap.size wc X ∧ X.cell? ⟨B9, 0, none⟩ = some (.bool (frS (q))) ∧ X.cell? ⟨B9, 1, none⟩ = some (.slice A9 l9.length c9) ∧ X.cell? ⟨B9, 2, none⟩ = some (.slice A0 l0.length c0))
      (first
        | exact HKS2.out _ (Below.refl _ wc).drew
        | (go_split_ands; refine HKS2.out _ (below_next ?_ hb13); assumption)
        | (go_split_ands; refine HKS2.out _ (below_next ?_ hb14); assumption))
      (first
        | (go_at_call 55; (with_reducible refine (HWB.out _).mono ?_); rintro e w13 ⟨v13, rfl, hv13, hb13⟩)
        | (go_at_call 57; (with_reducible refine (HOR.out _ _ v13 ?_ hv13).mono ?_); (exact HFQ.out _ (by go_split_ands; assumption)); rintro e w14 ⟨rfl, hb14⟩))
    have HB14 := Lib.hid (show Below wc.heap.size wc w14 by go_split_ands; assumption)
    clear hb13 hb14 hv13
    have hbr := below_next HBC.out HB14.out
    have hFB := HX0.out.on hbr
    have HFB := Lib.hid hFB
    have HBR := Lib.hid hbr
    obtain ⟨k0, k1, k2, z0, z1, z2, hlt5⟩ := hFB.facts
    clear f0 f1 f2 hbr hFB
    by_cases ho : 0 < od
    · have t1 : decide (0 < od) = true := by simpa using ho
      have HRE := Lib.hid (show bil (min (b * 1000000000) (h + r * d)) = (b : Rat) by rw [HRES.out, if_pos ho])
      clear k0 k1 k2 z0 z1 z2 hlt5
      go_wp2_with fail
      refine (HWB.out _).mono ?_
      rintro e w15 ⟨v15, rfl, hv15, hb15⟩
      obtain ⟨k0, k1, k2, z0, z1, z2, hlt5⟩ := (HFB.out.on hb15).facts
      have HF := Lib.hid (fun W (hf : Fr (fun i => i = w.heap.size + 1) w15 W) => frac_ret2 (HFB.out.on hb15) hv15 (below_next HST0.out.below (below_next HBR.out hb15)) (by omega) hf)
      obtain ⟨A5, c5, l5, A6, c6, l6, rfl, _, _⟩ := hv15
      clear hb15
      go_wp2
      refine bodyPost_ret (v := .agg #[.bool (frS (b : Rat)), .slice A5 l5.length c5, .slice A6 l6.length c6]) (by simp [results, Tryd.results56, go_sem, k0, k1, k2]) rfl ⟨_, rfl, by rw [HRE.out]; exact HF.out _ (fr3 _ _ _)⟩
    · have t1 : decide (0 < od) = false := by simpa using ho
      have HRE := Lib.hid (show bil (min (b * 1000000000) (h + r * d)) = q by rw [HRES.out, if_neg ho])
      have e9' := (HB14.out.block B9 (heap_lt HE9.out)).trans HE9.out
      have p0 : w14.cell? ⟨B9, 0, none⟩ = some (.bool (frS q)) := by rw [cellsAt e9']; rfl
      have p1 : w14.cell? ⟨B9, 1, none⟩ = some (.slice A9 l9.length c9) := by rw [cellsAt e9']; rfl
      have p2 : w14.cell? ⟨B9, 2, none⟩ = some (.slice A0 l0.length c0) := by rw [cellsAt e9']; rfl
      have HF := Lib.hid (fun W (hf : Fr (fun i => i = w.heap.size + 1) w14 W) => frac_ret2 HFB.out (HFQ.out w14 HB14.out) (below_next HST0.out.below HBR.out) (by omega) hf)
      clear e9'
      go_wp2
      refine bodyPost_ret (v := .agg #[.bool (frS q), .slice A9 l9.length c9, .slice A0 l0.length c0]) (by simp [results, Tryd.results56, go_sem, k0, k1, k2]) rfl ⟨_, rfl, by rw [HRE.out]; exact HF.out _ (fr3 _ _ _)⟩
end Go.Proofs.YtkoodmoilfgafaaDoor
