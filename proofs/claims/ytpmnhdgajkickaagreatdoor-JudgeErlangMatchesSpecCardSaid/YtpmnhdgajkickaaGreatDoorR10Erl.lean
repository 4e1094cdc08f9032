/- Package dynamometerref10: Erlang's first formula. Printed by gen_r10erl.py. -/
import Derived.Test.YtpmnhdgajkickaaGreatDoorROver
import Derived.Test.YtpmnhdgajkickaaGreatDoorFrSz
import Derived.Test.YtpmnhdgajkickaaGreatDoorVarR
import Derived.Test.YtpmnhdgajkickaaGreatDoorErlV
namespace Go.Proofs.YtpmnhdgajkickaaGreatDoor
open Go Go.RowKit Go.Proofs

set_option maxHeartbeats 8000000 in
set_option maxRecDepth 100000 in
theorem r10Blocked_any (c : Nat) (u : Value) (a : Rat) (w : World) (hc : c ≤ 50) (hu : FracR w u a) (h0 : frS a = false) (h1 : 0 < frN a) (h2 : frN a ≤ 1000000) (h3 : a.den ≤ 1000000) : Calls Tryz.prog 63 #[.int .i64 (c : Nat), u] w (FracPost (erB a c) w) := by
  obtain ⟨sz, hK1, hK2⟩ : ∃ sz, 200 ≤ sz ∧ sz ≤ 200 := ⟨200, Nat.le_refl _, Nat.le_refl _⟩
  have HSZ := Lib.hid (fun i (hi : i ≤ 50) => er_szR h0 h1 h2 h3 (show 101 ≤ sz by omega) i hi)
  have hsa : Sz 2 a := ⟨T4_small (by omega) (by omega), T4_small (by omega) (by omega)⟩
  have HSA := Lib.hid (hsa.mono (show 2 ≤ sz by omega))
  have HSPP := Lib.hid (show ∀ i : Nat, 1 ≤ i → i ≤ 50 → Sz 2 (mkRat 1 (i : Int).toNat) from fun i g1 g2 => by rw [Int.toNat_natCast]; exact sz_part2 (T4_small (by decide) (by omega)) (by omega) (T4_small (by omega) (by omega)))
  have HSQ := Lib.hid hsa
  have hpos := pos_of h0 h1
  have HNES := Lib.hid (show erS a c ≠ 0 by have := erS_pos hpos c; grind)
  clear hsa hpos h0 h1 h2 h3
  obtain ⟨bu, U1, d1, k1, U2, d2, k2, rfl⟩ := hu.shape
  obtain ⟨W0, hW0⟩ : ∃ W0, W0 = (w.alloc (.cells #[.bool bu, .slice U1 k1.length d1, .slice U2 k2.length d2] 35)).alloc (.cells #[.bool false, .slice none 0 0, .slice none 0 0] 35) := ⟨_, rfl⟩
  have HST0 := Lib.hid (show St w W0 [(w.heap.size, .cells #[.bool bu, .slice U1 k1.length d1, .slice U2 k2.length d2] 35 (0, 0)), (w.heap.size + 1, .cells #[.bool false, .slice none 0 0, .slice none 0 0] 35 (0, 0))] by rw [hW0]; exact ((St.start w).alloc _ _ rfl).alloc _ _ (by simp))
  have HX0 := Lib.hid (show FBox W0 (w.heap.size + 1) from HST0.out.at 1 rfl)
  have HK := Lib.hid (show ∀ X, Below W0.heap.size W0 X → X.cell? ⟨w.heap.size, 0, none⟩ = some (.bool bu) ∧ X.cell? ⟨w.heap.size, 1, none⟩ = some (.slice U1 k1.length d1) ∧ X.cell? ⟨w.heap.size, 2, none⟩ = some (.slice U2 k2.length d2) from fun X hX => ⟨(HST0.out.call hX).cell 0 0 rfl rfl, (HST0.out.call hX).cell 0 1 rfl rfl, (HST0.out.call hX).cell 0 2 rfl rfl⟩)
  have HU := Lib.hid (hu.on HST0.out.below)
  have hs0 : W0.heap.size = w.heap.size + 1 + 1 := by rw [hW0]; simp
  have HW := Lib.hid (fun W => rWhole_any 1 W (by omega) (by omega))
  clear hu
  go_enter Tryz.func63, Tryz.ntmps63
  go_wp2_with fail
  rw [← hW0]
  clear hW0
  (with_reducible refine (HW.out _).mono ?_)
  rintro e w1 ⟨v1, rfl, hv1, hb1⟩
  obtain ⟨bz, Z1, z1, t1, Z2, z2, t2, rfl⟩ := hv1.shape
  have HV1 := Lib.hid hv1
  have HB1 := Lib.hid hb1
  clear hv1 hb1
  go_wp2_with fail
  (with_reducible refine (HW.out _).mono ?_)
  rintro e w2 ⟨v2, rfl, hv2, hb2⟩
  obtain ⟨by2, Y1, y1, x1, Y2, y2, x2, rfl⟩ := hv2.shape
  have hv12 := HV1.out.on hb2
  obtain ⟨W3, hW3⟩ : ∃ W3, W3 = w2.alloc (.cells #[.bool bz, .slice Z1 t1.length z1, .slice Z2 t2.length z2] 35) := ⟨_, rfl⟩
  obtain ⟨W4, hW4⟩ : ∃ W4, W4 = W3.alloc (.cells #[.bool by2, .slice Y1 x1.length y1, .slice Y2 x2.length y2] 35) := ⟨_, rfl⟩
  have hb23 : Below w2.heap.size w2 W3 := by rw [hW3]; exact (Below.refl _ w2).alloc (Nat.le_refl _) _
  have hb34 : Below W3.heap.size W3 W4 := by rw [hW4]; exact (Below.refl _ W3).alloc (Nat.le_refl _) _
  have e3 : VarQ W3 w2.heap.size ((1 : Int) : Rat) := by rw [hW3]; exact VarQ.laid hv12
  have HVT := Lib.hid (e3.on hb34)
  have HVS := Lib.hid (show VarQ W4 W3.heap.size ((1 : Int) : Rat) by rw [hW4]; exact VarQ.laid (hv2.on hb23))
  obtain ⟨B1, hB1⟩ : ∃ B, B = w2.heap.size := ⟨_, rfl⟩
  obtain ⟨B2, hB2⟩ : ∃ B, B = W3.heap.size := ⟨_, rfl⟩
  have hsz3 : W3.heap.size = w2.heap.size + 1 := by rw [hW3]; simp
  have HZ3 := Lib.hid hsz3
  have HNEB := Lib.hid (show B1 ≠ B2 by omega)
  have HB4 := Lib.hid (below_next HB1.out (below_next hb2 (below_next hb23 hb34)))
  have hl2 := (below_next HB1.out hb2).size
  have HL1 := Lib.hid (show W0.heap.size ≤ B1 by omega)
  have HL2 := Lib.hid (show W0.heap.size ≤ B2 by omega)
  rw [← hB1] at HVT
  rw [← hB2] at HVS
  have HBE := Lib.hid hB1
  have HBE2 := Lib.hid hB2
  clear hv2 hb2 hv12 hb23 hb34 e3 hsz3 hl2 hB1 hB2
  go_wp2
  rw [← hW3, ← hW4, ← HBE.out, show B1 + 1 = B2 by rw [HBE2.out, HBE.out, HZ3.out]]
  clear hW3 hW4
  go_loopw [7] (fun kv wr => ∃ i : Nat, kv = .int .i64 (i : Nat) ∧ 1 ≤ i ∧ i ≤ c + 1 ∧ VarQ wr B1 (erT a (i - 1)) ∧ VarQ wr B2 (erS a (i - 1)) ∧ Below W0.heap.size W0 wr) (fun kv _ => c + 1 - (intOf kv).toNat)
  case atStart => exact ⟨1, rfl, by omega, by omega, HVT.out, HVS.out, HB4.out⟩
  case round =>
    obtain ⟨i, rfl, hi1, hi2, hv1, hv2, hbw⟩ := hrel
    obtain ⟨bo, D1, e1, m1, D2, e2, m2, hg1, hj1⟩ := hv1.get
    obtain ⟨bq, Q1, f1, n1, Q2, f2, n2, hg2, hj2⟩ := hv2.get
    have HV1 := Lib.hid hv1
    have HV2 := Lib.hid hv2
    have HG1 := Lib.hid hg1
    have HBW := Lib.hid hbw
    obtain ⟨g0, g1, g2, q0, q1, q2, hlt1⟩ := hg1 wr (Below.refl _ _)
    by_cases hlt : i ≤ c
    · have HTR := Lib.hid hj1
      have HUR := Lib.hid (HU.out.on hbw)
      have HSP := Lib.hid ((HSPP.out i hi1 (by omega)).mono (show 2 ≤ sz by omega))
      have HSAP := Lib.hid ((sz_mul HSQ.out (HSPP.out i hi1 (by omega))).mono (show 2 + 2 ≤ sz by omega))
      have HET := Lib.hid (show erT a (i - 1) * (a * mkRat 1 (i : Int).toNat) = erT a i by
        rw [Int.toNat_natCast]
        obtain ⟨j, rfl⟩ : ∃ j, i = j + 1 := ⟨i - 1, by omega⟩
        rfl)
      have HES := Lib.hid (show erS a (i - 1) + erT a i = erS a i by
        obtain ⟨j, rfl⟩ : ∃ j, i = j + 1 := ⟨i - 1, by omega⟩
        rfl)
      have HKS := Lib.hid (show ∀ X, Below wr.heap.size wr X → (fun X => Below wr.heap.size wr X ∧ X.cell? ⟨B1, 0, none⟩ = some (.bool bo) ∧ X.cell? ⟨B1, 1, none⟩ = some (.slice D1 m1.length e1) ∧ X.cell? ⟨B1, 2, none⟩ = some (.slice D2 m2.length e2) ∧ X.cell? ⟨w.heap.size, 0, none⟩ = some (.bool bu) ∧ X.cell? ⟨w.heap.size, 1, none⟩ = some (.slice U1 k1.length d1) ∧ X.cell? ⟨w.heap.size, 2, none⟩ = some (.slice U2 k2.length d2)) X from fun X hX => by
        obtain ⟨y0, y1, y2, -, -, -, -⟩ := hg1 X hX
        obtain ⟨f0, f1, f2⟩ := HK.out X (below_next hbw hX)
        exact ⟨hX, y0, y1, y2, f0, f1, f2⟩)
      clear hv1 hv2 hg1 hg2 hj1 hj2 hbw g0 g1 g2 q0 q1 q2 hlt1
      go_wp2_with fail
      refine wp_region_last (init := #[_, _, _, _, _, _]) (last := _) rfl (by kernel_rfl) (by kernel_rfl) (by kernel_rfl) ?_
      show wpAny _ _ _ _ 6 (Array.replicate 6 false) _ wr.drew
      refine wpAny_of_held (S := (fun X => Below wr.heap.size wr X ∧ X.cell? ⟨B1, 0, none⟩ = some (.bool bo) ∧ X.cell? ⟨B1, 1, none⟩ = some (.slice D1 m1.length e1) ∧ X.cell? ⟨B1, 2, none⟩ = some (.slice D2 m2.length e2) ∧ X.cell? ⟨w.heap.size, 0, none⟩ = some (.bool bu) ∧ X.cell? ⟨w.heap.size, 1, none⟩ = some (.slice U1 k1.length d1) ∧ X.cell? ⟨w.heap.size, 2, none⟩ = some (.slice U2 k2.length d2))) _ _ _ _ ?_
      have HS0 := HKS.out _ (Below.refl _ wr).drew
      have hbx0 : Below wr.heap.size wr wr.drew := (Below.refl _ _).drew
      obtain ⟨Xx0, hXx0⟩ : ∃ X, X = wr.drew := ⟨_, rfl⟩
      rw [← hXx0] at hbx0 HS0 ⊢
      have HBx0 := Lib.hid hbx0
      clear hbx0 hXx0
      refine wpAnyH_take (i := 0) (v := ?_) rfl (by kernel_rfl) (by kernel_rfl) (by kernel_rfl) (fun _ _ _ h => h) (Or.inl ⟨by rfl, ?_⟩) HS0 ?_
      rotate_left
      · intro W hW; (try dsimp only at hW); go_simp; try (with_reducible rfl)
      (try simp only [List.getElem_toArray, List.getElem_cons_succ, List.getElem_cons_zero, Act.put, List.setIfInBounds_toArray, List.set_cons_zero, List.set_cons_succ])
      refine wpAnyH_take (i := 1) (v := ?_) rfl (by kernel_rfl) (by kernel_rfl) (by kernel_rfl) (fun _ _ _ h => h) (Or.inl ⟨by rfl, ?_⟩) HS0 ?_
      rotate_left
      · intro W hW; (try dsimp only at hW); go_simp; try (with_reducible rfl)
      (try simp only [List.getElem_toArray, List.getElem_cons_succ, List.getElem_cons_zero, Act.put, List.setIfInBounds_toArray, List.set_cons_zero, List.set_cons_succ])
      refine wpAnyH_take (i := 2) (v := ?_) rfl (by kernel_rfl) (by kernel_rfl) (by kernel_rfl) (fun _ _ _ h => h) (Or.inl ⟨by rfl, ?_⟩) HS0 ?_
      rotate_left
      · intro W hW; (try dsimp only at hW); go_simp; try (with_reducible rfl)
      (try simp only [List.getElem_toArray, List.getElem_cons_succ, List.getElem_cons_zero, Act.put, List.setIfInBounds_toArray, List.set_cons_zero, List.set_cons_succ])
      clear HS0
      refine run_one (i := 3) (by kernel_rfl) rfl rfl ?_
      intro K hK
      go_simp
      (with_reducible refine (rPart_any 1 (i : Int) Xx0 (by omega) (by omega) (by omega) (by omega)).mono ?_)
      rintro e Xx1 ⟨v1, rfl, hvx1, hbx1⟩
      have HBx1 := Lib.hid (below_next (HBx0.out) hbx1)
      refine hK.out _ _ (HKS.out _ HBx1.out) ?_
      clear hK K
      intro _
      obtain ⟨bpt, Apt, cpt, lpt, Dpt, dpt, mpt, rfl⟩ := hvx1.shape
      (try simp only [List.getElem_toArray, List.getElem_cons_succ, List.getElem_cons_zero, Act.put, List.setIfInBounds_toArray, List.set_cons_zero, List.set_cons_succ])
      refine run_one (i := 4) (by kernel_rfl) rfl rfl ?_
      intro K hK
      go_simp
      (with_reducible refine (rTimes_any sz _ _ a (mkRat 1 (i : Int).toNat) Xx1 (by omega) (HUR.out.on (HBx1.out)) (hvx1) HSA.out HSP.out).mono ?_)
      rintro e Xx2 ⟨v2, rfl, hvx2, hbx2⟩
      have HBx2 := Lib.hid (below_next (HBx1.out) hbx2)
      refine hK.out _ _ (HKS.out _ HBx2.out) ?_
      clear hK K
      intro _
      obtain ⟨bap, Aap, cap, lap, Dap, dap, map, rfl⟩ := hvx2.shape
      (try simp only [List.getElem_toArray, List.getElem_cons_succ, List.getElem_cons_zero, Act.put, List.setIfInBounds_toArray, List.set_cons_zero, List.set_cons_succ])
      refine run_one (i := 5) (by kernel_rfl) rfl rfl ?_
      intro K hK
      go_simp
      (with_reducible refine (rTimes_any sz _ _ (erT a (i - 1)) (a * mkRat 1 (i : Int).toNat) Xx2 (by omega) (HTR.out.on (HBx2.out)) (hvx2) (HSZ.out (i - 1) (by omega)).1 HSAP.out).mono ?_)
      rintro e Xx3 ⟨v3, rfl, hvx3, hbx3⟩
      have HBx3 := Lib.hid (below_next (HBx2.out) hbx3)
      refine hK.out _ _ (HKS.out _ HBx3.out) ?_
      clear hK K
      intro _
      obtain ⟨btm, Atm, ctm, ltm, Dtm, dtm, mtm, rfl⟩ := hvx3.shape
      (try simp only [List.getElem_toArray, List.getElem_cons_succ, List.getElem_cons_zero, Act.put, List.setIfInBounds_toArray, List.set_cons_zero, List.set_cons_succ])
      refine wpAnyH_done (by kernel_rfl) ?_ _
      simp only [LastQ]
      have hve := hvx3
      rw [HET.out] at hve
      obtain ⟨z0, z1, z2, q0, q1, q2, hlt0⟩ := HG1.out _ (HBx3.out)
      obtain ⟨bY, Y3, y3, t3, Y4, y4, t4, eX⟩ := (HV1.out.on (HBx3.out)).raw
      have hset := VarQ.store eX hve
      have hfar := VarQ.far (HV2.out.on (HBx3.out)) (HV1.out.on (HBx3.out)) (fun e => HNEB.out e.symm) (.bool btm) (.slice Atm ltm.length ctm) (.slice Dtm mtm.length dtm)
      obtain ⟨W6, hW6⟩ : ∃ W6, W6 = ((Xx3.setCell ⟨B1, 0, none⟩ (.bool btm)).setCell ⟨B1, 1, none⟩ (.slice Atm ltm.length ctm)).setCell ⟨B1, 2, none⟩ (.slice Dtm mtm.length dtm) := ⟨_, rfl⟩
      rw [← hW6] at hset hfar
      have HB6 := Lib.hid (show Below W0.heap.size W0 W6 by rw [hW6]; exact (((below_next HBW.out (HBx3.out)).setCell (p := ⟨B1, 0, none⟩) HL1.out _).setCell (p := ⟨B1, 1, none⟩) HL1.out _).setCell (p := ⟨B1, 2, none⟩) HL1.out _)
      obtain ⟨bP, P1, p1, r1, P2, p2, r2, hgp, hjp⟩ := hset.get
      obtain ⟨bS, S1, s1, v1, S2, s2, v2, hgs, hjs⟩ := hfar.get
      have HSET := Lib.hid hset
      have HFAR := Lib.hid hfar
      have HGS := Lib.hid hgs
      obtain ⟨i0, i1, i2, -, -, -, -⟩ := hgp W6 (Below.refl _ _)
      obtain ⟨j0, j1, j2, -, -, -, -⟩ := hgs W6 (Below.refl _ _)
      have HPL := Lib.hid (rPlus_any sz _ _ _ _ W6 (by omega) hjs hjp (HSZ.out (i - 1) (by omega)).2.1 (HSZ.out i (by omega)).1)
      rw [HES.out] at HPL
      rw [hW6] at i0 i1 i2 j0 j1 j2
      clear hset hfar hgp hgs hjp hjs hve eX
      go_simp
      go_wp2_with fail
      rw [← hW6]
      clear hW6 i0 i1 i2 j0 j1 j2
      (with_reducible refine (HPL.out).mono ?_)
      rintro e w7 ⟨v7, rfl, hv7, hb7⟩
      obtain ⟨b7, E1, n1, o1, E2, n2, o2, rfl⟩ := hv7.shape
      obtain ⟨g0, g1, g2, y0, y1, y2, hlt2⟩ := HGS.out w7 hb7
      obtain ⟨bZ, Z3, z3, x3, Z4, z4, x4, eZ⟩ := (HFAR.out.on hb7).raw
      have HN2 := Lib.hid (VarQ.store eZ hv7)
      have HN1 := Lib.hid (VarQ.far (HSET.out.on hb7) (HFAR.out.on hb7) HNEB.out (.bool b7) (.slice E1 o1.length n1) (.slice E2 o2.length n2))
      have HBN := Lib.hid ((((below_next HB6.out hb7).setCell (p := ⟨B2, 0, none⟩) HL2.out (.bool b7)).setCell (p := ⟨B2, 1, none⟩) HL2.out (.slice E1 o1.length n1)).setCell (p := ⟨B2, 2, none⟩) HL2.out (.slice E2 o2.length n2))
      clear hv7 hb7 eZ HPL
      go_wp2
      go_roundw
      case rel => exact ⟨i + 1, by go_num, by omega, by omega, by rw [show i + 1 - 1 = i by omega]; exact HN1.out, by rw [show i + 1 - 1 = i by omega]; exact HN2.out, HBN.out⟩
      case measure => simp [intOf]; omega
    · obtain rfl : i = c + 1 := by omega
      rw [show c + 1 - 1 = c by omega] at hj1 hj2
      obtain ⟨j0, j1, j2, -, -, -, -⟩ := hg2 wr (Below.refl _ _)
      have HOV := Lib.hid (rOver_any sz _ _ _ _ wr (by omega) hj1 hj2 (HSZ.out c (by omega)).1 (HSZ.out c (by omega)).2.1 HNES.out)
      have HXW := Lib.hid (HX0.out.on hbw)
      clear hv1 hv2 hg1 hg2 hj1 hj2 hbw
      go_wp2_with fail
      (with_reducible refine (HOV.out).mono ?_)
      rintro e w7 ⟨v7, rfl, hv7, hb7⟩
      obtain ⟨b7, E1, n1, o1, E2, n2, o2, rfl⟩ := hv7.shape
      have hbn := below_next HBW.out hb7
      obtain ⟨k0, k1, k2, s0, s1, s2, hlt⟩ := (HXW.out.on hb7).facts
      have HFN := Lib.hid (fq_ret (HXW.out.on hb7) hv7 (below_next HST0.out.below hbn) (by omega) (fr3 (w := w7) (B := w.heap.size + 1) (.bool b7) (.slice E1 o1.length n1) (.slice E2 o2.length n2)))
      clear hv7 hb7 hbn HOV
      go_wp2
      refine bodyPost_ret (v := .agg #[.bool b7, .slice E1 o1.length n1, .slice E2 o2.length n2]) (by simp [results, Tryz.results63, go_sem, k0, k1, k2]) rfl ⟨_, rfl, HFN.out.1, HFN.out.2⟩
end Go.Proofs.YtpmnhdgajkickaaGreatDoor
