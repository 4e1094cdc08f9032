/- Package dynamometerref10: Erlang's second formula. Printed by gen_r10erl.py. -/
import Derived.Test.YtpmnhdgajkickaaGreatDoorR10Erl
namespace Go.Proofs.YtpmnhdgajkickaaGreatDoor
open Go Go.RowKit Go.Proofs

set_option maxHeartbeats 8000000 in
set_option maxRecDepth 100000 in
theorem r10Waiting_any (c : Nat) (u : Value) (a : Rat) (w : World) (hc : c ≤ 50) (hu : FracR w u a) (h0 : frS a = false) (h1 : 0 < frN a) (h2 : frN a ≤ 1000000) (h3 : a.den ≤ 1000000) (hac : a < ((c : Int) : Rat)) : Calls Tryz.prog 68 #[.int .i64 (c : Nat), u] w (FracPost (erW a c) w) := by
  obtain ⟨sz, hK1, hK2⟩ : ∃ sz, 200 ≤ sz ∧ sz ≤ 200 := ⟨200, Nat.le_refl _, Nat.le_refl _⟩
  have hb : Sz 101 (erB a c) := (er_szR h0 h1 h2 h3 (Nat.le_refl 101) c hc).2.2
  have hsa : Sz 2 a := ⟨T4_small (by omega) (by omega), T4_small (by omega) (by omega)⟩
  have hsc : Sz 2 ((c : Int) : Rat) := sz_int2 (T4_small (by omega) (by omega)) (by omega)
  have hso : Sz 2 ((1 : Int) : Rat) := sz_int2 (T4_small (by decide) (by omega)) (by omega)
  have HSB := Lib.hid (hb.mono (show 101 ≤ sz by omega))
  have HSA := Lib.hid (hsa.mono (show 2 ≤ sz by omega))
  have HSC := Lib.hid (hsc.mono (show 2 ≤ sz by omega))
  have HSO := Lib.hid (hso.mono (show 2 ≤ sz by omega))
  have hsf : Sz 104 (((1 : Int) : Rat) - erB a c) := sz_sub hso hb
  have HSF := Lib.hid (hsf.mono (show 104 ≤ sz by omega))
  have hsaf : Sz 106 (a * (((1 : Int) : Rat) - erB a c)) := sz_mul hsa hsf
  have HSAF := Lib.hid (hsaf.mono (show 106 ≤ sz by omega))
  have hsd : Sz 109 (((c : Int) : Rat) - a * (((1 : Int) : Rat) - erB a c)) := sz_sub hsc hsaf
  have HSD := Lib.hid (hsd.mono (show 109 ≤ sz by omega))
  have hscb : Sz 103 (((c : Int) : Rat) * erB a c) := sz_mul hsc hb
  have HSCB := Lib.hid (hscb.mono (show 103 ≤ sz by omega))
  have HNE := Lib.hid (show ((c : Int) : Rat) - a * (((1 : Int) : Rat) - erB a c) ≠ 0 from erW_den (pos_of h0 h1) hac)
  have HEW := Lib.hid (show ((c : Int) : Rat) * erB a c / (((c : Int) : Rat) - a * (((1 : Int) : Rat) - erB a c)) = erW a c from rfl)
  have HBL := Lib.hid (fun u W (hu : FracR W u a) => r10Blocked_any c u a W hc hu h0 h1 h2 h3)
  have HWC := Lib.hid (fun W => rWhole_any (c : Int) W (by omega) (by omega))
  have HWO := Lib.hid (fun W => rWhole_any 1 W (by omega) (by omega))
  clear hb hsa hsc hso hsf hsaf hsd hscb h0 h1 h2 h3 hac
  obtain ⟨bu, U1, d1, k1, U2, d2, k2, rfl⟩ := hu.shape
  obtain ⟨W0, hW0⟩ : ∃ W0, W0 = (w.alloc (.cells #[.bool bu, .slice U1 k1.length d1, .slice U2 k2.length d2] 35)).alloc (.cells #[.bool false, .slice none 0 0, .slice none 0 0] 35) := ⟨_, rfl⟩
  have HST0 := Lib.hid (show St w W0 [(w.heap.size, .cells #[.bool bu, .slice U1 k1.length d1, .slice U2 k2.length d2] 35 (0, 0)), (w.heap.size + 1, .cells #[.bool false, .slice none 0 0, .slice none 0 0] 35 (0, 0))] by rw [hW0]; exact ((St.start w).alloc _ _ rfl).alloc _ _ (by simp))
  have HX0 := Lib.hid (show FBox W0 (w.heap.size + 1) from HST0.out.at 1 rfl)
  have HK := Lib.hid (show ∀ X, Below W0.heap.size W0 X → X.cell? ⟨w.heap.size, 0, none⟩ = some (.bool bu) ∧ X.cell? ⟨w.heap.size, 1, none⟩ = some (.slice U1 k1.length d1) ∧ X.cell? ⟨w.heap.size, 2, none⟩ = some (.slice U2 k2.length d2) from fun X hX => ⟨(HST0.out.call hX).cell 0 0 rfl rfl, (HST0.out.call hX).cell 0 1 rfl rfl, (HST0.out.call hX).cell 0 2 rfl rfl⟩)
  have HU := Lib.hid (hu.on HST0.out.below)
  have hs0 : W0.heap.size = w.heap.size + 1 + 1 := by rw [hW0]; simp
  obtain ⟨f0, f1, f2⟩ := HK.out W0 (Below.refl _ _)
  clear hu
  go_enter Tryz.func68, Tryz.ntmps68
  go_wp2_with fail
  rw [← hW0]
  clear hW0
  (with_reducible refine (HBL.out _ _ HU.out).mono ?_)
  rintro e w1 ⟨v1, rfl, hv1, hb1⟩
  obtain ⟨bB, B1, z1, t1, B2, z2, t2, rfl⟩ := hv1.shape
  obtain ⟨W2, hW2⟩ : ∃ W2, W2 = w1.alloc (.cells #[.bool bB, .slice B1 t1.length z1, .slice B2 t2.length z2] 35) := ⟨_, rfl⟩
  have hb12 : Below w1.heap.size w1 W2 := by rw [hW2]; exact (Below.refl _ w1).alloc (Nat.le_refl _) _
  have HVB := Lib.hid (hv1.on hb12)
  have HE2 := Lib.hid (show W2.heap[w1.heap.size]? = some (.cells #[.bool bB, .slice B1 t1.length z1, .slice B2 t2.length z2] 35 (0, 0)) by rw [hW2]; exact alloc_at _ _ _ rfl)
  have HB2 := Lib.hid (below_next hb1 hb12)
  have HUR := Lib.hid (HU.out.on HB2.out)
  clear hv1 hb1 hb12 f0 f1 f2
  go_wp2_with fail
  rw [← hW2]
  clear hW2
  have HKS := Lib.hid (show ∀ X, Below W2.heap.size W2 X → (fun X => Below W2.heap.size W2 X ∧ X.cell? ⟨w1.heap.size, 0, none⟩ = some (.bool bB) ∧ X.cell? ⟨w1.heap.size, 1, none⟩ = some (.slice B1 t1.length z1) ∧ X.cell? ⟨w1.heap.size, 2, none⟩ = some (.slice B2 t2.length z2) ∧ X.cell? ⟨w.heap.size, 0, none⟩ = some (.bool bu) ∧ X.cell? ⟨w.heap.size, 1, none⟩ = some (.slice U1 k1.length d1) ∧ X.cell? ⟨w.heap.size, 2, none⟩ = some (.slice U2 k2.length d2)) X from fun X hX => by
    have e := (hX.block _ (heap_lt HE2.out)).trans HE2.out
    obtain ⟨f0, f1, f2⟩ := HK.out X (below_next HB2.out hX)
    exact ⟨hX, by rw [cellsAt e]; rfl, by rw [cellsAt e]; rfl, by rw [cellsAt e]; rfl, f0, f1, f2⟩)
  refine wp_region_last (init := #[_, _, _, _, _, _, _, _, _, _, _, _, _]) (last := _) rfl (by kernel_rfl) (by kernel_rfl) (by kernel_rfl) ?_
  show wpAny _ _ _ _ 13 (Array.replicate 13 false) _ W2.drew
  refine wpAny_of_held (S := (fun X => Below W2.heap.size W2 X ∧ X.cell? ⟨w1.heap.size, 0, none⟩ = some (.bool bB) ∧ X.cell? ⟨w1.heap.size, 1, none⟩ = some (.slice B1 t1.length z1) ∧ X.cell? ⟨w1.heap.size, 2, none⟩ = some (.slice B2 t2.length z2) ∧ X.cell? ⟨w.heap.size, 0, none⟩ = some (.bool bu) ∧ X.cell? ⟨w.heap.size, 1, none⟩ = some (.slice U1 k1.length d1) ∧ X.cell? ⟨w.heap.size, 2, none⟩ = some (.slice U2 k2.length d2))) _ _ _ _ ?_
  have HS0 := HKS.out _ (Below.refl _ W2).drew
  have hbx0 : Below W2.heap.size W2 W2.drew := (Below.refl _ _).drew
  obtain ⟨Xx0, hXx0⟩ : ∃ X, X = W2.drew := ⟨_, rfl⟩
  rw [← hXx0] at hbx0 HS0 ⊢
  have HBx0 := Lib.hid hbx0
  clear hbx0 hXx0
  refine wpAnyH_take (i := 0) (v := ?_) rfl (by kernel_rfl) (by kernel_rfl) (by kernel_rfl) (fun _ _ _ h => h) (Or.inl ⟨by rfl, ?_⟩) HS0 ?_
  rotate_left
  · intro W hW; (try dsimp only at hW); go_simp; try (with_reducible rfl)
  (try simp only [List.getElem_toArray, List.getElem_cons_succ, List.getElem_cons_zero, Act.put, List.setIfInBounds_toArray, List.set_cons_zero, List.set_cons_succ])
  refine wpAnyH_take (i := 2) (v := ?_) rfl (by kernel_rfl) (by kernel_rfl) (by kernel_rfl) (fun _ _ _ h => h) (Or.inl ⟨by rfl, ?_⟩) HS0 ?_
  rotate_left
  · intro W hW; (try dsimp only at hW); go_simp; try (with_reducible rfl)
  (try simp only [List.getElem_toArray, List.getElem_cons_succ, List.getElem_cons_zero, Act.put, List.setIfInBounds_toArray, List.set_cons_zero, List.set_cons_succ])
  refine wpAnyH_take (i := 4) (v := ?_) rfl (by kernel_rfl) (by kernel_rfl) (by kernel_rfl) (fun _ _ _ h => h) (Or.inl ⟨by rfl, ?_⟩) HS0 ?_
  rotate_left
  · intro W hW; (try dsimp only at hW); go_simp; try (with_reducible rfl)
  (try simp only [List.getElem_toArray, List.getElem_cons_succ, List.getElem_cons_zero, Act.put, List.setIfInBounds_toArray, List.set_cons_zero, List.set_cons_succ])
  refine wpAnyH_take (i := 6) (v := ?_) rfl (by kernel_rfl) (by kernel_rfl) (by kernel_rfl) (fun _ _ _ h => h) (Or.inl ⟨by rfl, ?_⟩) HS0 ?_
  rotate_left
  · intro W hW; (try dsimp only at hW); go_simp; try (with_reducible rfl)
  (try simp only [List.getElem_toArray, List.getElem_cons_succ, List.getElem_cons_zero, Act.put, List.setIfInBounds_toArray, List.set_cons_zero, List.set_cons_succ])
  refine wpAnyH_take (i := 8) (v := ?_) rfl (by kernel_rfl) (by kernel_rfl) (by kernel_rfl) (fun _ _ _ h => h) (Or.inl ⟨by rfl, ?_⟩) HS0 ?_
  rotate_left
  · intro W hW; (try dsimp only at hW); go_simp; try (with_reducible rfl)
  (try simp only [List.getElem_toArray, List.getElem_cons_succ, List.getElem_cons_zero, Act.put, List.setIfInBounds_toArray, List.set_cons_zero, List.set_cons_succ])
  clear HS0
  refine run_one (i := 1) (by kernel_rfl) rfl rfl ?_
  intro K hK
  go_simp
  (with_reducible refine (HWC.out Xx0).mono ?_)
  rintro e Xx1 ⟨v1, rfl, hvx1, hbx1⟩
  have HBx1 := Lib.hid (below_next (HBx0.out) hbx1)
  refine hK.out _ _ (HKS.out _ HBx1.out) ?_
  clear hK K
  intro _
  obtain ⟨bc1, Ac1, cc1, lc1, Dc1, dc1, mc1, rfl⟩ := hvx1.shape
  (try simp only [List.getElem_toArray, List.getElem_cons_succ, List.getElem_cons_zero, Act.put, List.setIfInBounds_toArray, List.set_cons_zero, List.set_cons_succ])
  refine run_one (i := 3) (by kernel_rfl) rfl rfl ?_
  intro K hK
  go_simp
  (with_reducible refine (rTimes_any sz _ _ ((c : Int) : Rat) (erB a c) Xx1 (by omega) (hvx1) (HVB.out.on (HBx1.out)) HSC.out HSB.out).mono ?_)
  rintro e Xx2 ⟨v2, rfl, hvx2, hbx2⟩
  have HBx2 := Lib.hid (below_next (HBx1.out) hbx2)
  refine hK.out _ _ (HKS.out _ HBx2.out) ?_
  clear hK K
  intro _
  obtain ⟨bcb, Acb, ccb, lcb, Dcb, dcb, mcb, rfl⟩ := hvx2.shape
  (try simp only [List.getElem_toArray, List.getElem_cons_succ, List.getElem_cons_zero, Act.put, List.setIfInBounds_toArray, List.set_cons_zero, List.set_cons_succ])
  refine run_one (i := 5) (by kernel_rfl) rfl rfl ?_
  intro K hK
  go_simp
  (with_reducible refine (HWC.out Xx2).mono ?_)
  rintro e Xx3 ⟨v3, rfl, hvx3, hbx3⟩
  have HBx3 := Lib.hid (below_next (HBx2.out) hbx3)
  refine hK.out _ _ (HKS.out _ HBx3.out) ?_
  clear hK K
  intro _
  obtain ⟨bc2, Ac2, cc2, lc2, Dc2, dc2, mc2, rfl⟩ := hvx3.shape
  (try simp only [List.getElem_toArray, List.getElem_cons_succ, List.getElem_cons_zero, Act.put, List.setIfInBounds_toArray, List.set_cons_zero, List.set_cons_succ])
  refine run_one (i := 7) (by kernel_rfl) rfl rfl ?_
  intro K hK
  go_simp
  (with_reducible refine (HWO.out Xx3).mono ?_)
  rintro e Xx4 ⟨v4, rfl, hvx4, hbx4⟩
  have HBx4 := Lib.hid (below_next (HBx3.out) hbx4)
  refine hK.out _ _ (HKS.out _ HBx4.out) ?_
  clear hK K
  intro _
  obtain ⟨bo1, Ao1, co1, lo1, Do1, do1, mo1, rfl⟩ := hvx4.shape
  (try simp only [List.getElem_toArray, List.getElem_cons_succ, List.getElem_cons_zero, Act.put, List.setIfInBounds_toArray, List.set_cons_zero, List.set_cons_succ])
  refine run_one (i := 9) (by kernel_rfl) rfl rfl ?_
  intro K hK
  go_simp
  (with_reducible refine (rLess_any sz _ _ ((1 : Int) : Rat) (erB a c) Xx4 (by omega) (hvx4) (HVB.out.on (HBx4.out)) HSO.out HSB.out).mono ?_)
  rintro e Xx5 ⟨v5, rfl, hvx5, hbx5⟩
  have HBx5 := Lib.hid (below_next (HBx4.out) hbx5)
  refine hK.out _ _ (HKS.out _ HBx5.out) ?_
  clear hK K
  intro _
  obtain ⟨bfr, Afr, cfr, lfr, Dfr, dfr, mfr, rfl⟩ := hvx5.shape
  (try simp only [List.getElem_toArray, List.getElem_cons_succ, List.getElem_cons_zero, Act.put, List.setIfInBounds_toArray, List.set_cons_zero, List.set_cons_succ])
  refine run_one (i := 10) (by kernel_rfl) rfl rfl ?_
  intro K hK
  go_simp
  (with_reducible refine (rTimes_any sz _ _ a (((1 : Int) : Rat) - (erB a c)) Xx5 (by omega) (HUR.out.on (HBx5.out)) (hvx5) HSA.out HSF.out).mono ?_)
  rintro e Xx6 ⟨v6, rfl, hvx6, hbx6⟩
  have HBx6 := Lib.hid (below_next (HBx5.out) hbx6)
  refine hK.out _ _ (HKS.out _ HBx6.out) ?_
  clear hK K
  intro _
  obtain ⟨baf, Aaf, caf, laf, Daf, daf, maf, rfl⟩ := hvx6.shape
  (try simp only [List.getElem_toArray, List.getElem_cons_succ, List.getElem_cons_zero, Act.put, List.setIfInBounds_toArray, List.set_cons_zero, List.set_cons_succ])
  refine run_one (i := 11) (by kernel_rfl) rfl rfl ?_
  intro K hK
  go_simp
  (with_reducible refine (rLess_any sz _ _ ((c : Int) : Rat) (a * (((1 : Int) : Rat) - (erB a c))) Xx6 (by omega) ((((hvx3).on hbx4).on hbx5).on hbx6) (hvx6) HSC.out HSAF.out).mono ?_)
  rintro e Xx7 ⟨v7, rfl, hvx7, hbx7⟩
  have HBx7 := Lib.hid (below_next (HBx6.out) hbx7)
  refine hK.out _ _ (HKS.out _ HBx7.out) ?_
  clear hK K
  intro _
  obtain ⟨bdn, Adn, cdn, ldn, Ddn, ddn, mdn, rfl⟩ := hvx7.shape
  (try simp only [List.getElem_toArray, List.getElem_cons_succ, List.getElem_cons_zero, Act.put, List.setIfInBounds_toArray, List.set_cons_zero, List.set_cons_succ])
  refine run_one (i := 12) (by kernel_rfl) rfl rfl ?_
  intro K hK
  go_simp
  (with_reducible refine (rOver_any sz _ _ (((c : Int) : Rat) * (erB a c)) (((c : Int) : Rat) - a * (((1 : Int) : Rat) - (erB a c))) Xx7 (by omega) ((((((hvx2).on hbx3).on hbx4).on hbx5).on hbx6).on hbx7) (hvx7) HSCB.out HSD.out HNE.out).mono ?_)
  rintro e Xx8 ⟨v8, rfl, hvx8, hbx8⟩
  have HBx8 := Lib.hid (below_next (HBx7.out) hbx8)
  refine hK.out _ _ (HKS.out _ HBx8.out) ?_
  clear hK K
  intro _
  obtain ⟨bres, Ares, cres, lres, Dres, dres, mres, rfl⟩ := hvx8.shape
  (try simp only [List.getElem_toArray, List.getElem_cons_succ, List.getElem_cons_zero, Act.put, List.setIfInBounds_toArray, List.set_cons_zero, List.set_cons_succ])
  refine wpAnyH_done (by kernel_rfl) ?_ _
  simp only [LastQ]
  have HBN := Lib.hid (below_next HB2.out (HBx8.out))
  obtain ⟨k0, k1, k2, s0, s1, s2, hlt⟩ := (HX0.out.on HBN.out).facts
  have hvr := hvx8
  rw [HEW.out] at hvr
  have HFN := Lib.hid (fq_ret (HX0.out.on HBN.out) hvr (below_next HST0.out.below HBN.out) (by omega) (fr3 (w := Xx8) (B := w.heap.size + 1) (.bool bres) (.slice Ares lres.length cres) (.slice Dres mres.length dres)))
  clear hvr
  go_simp
  go_wp2
  refine bodyPost_ret (v := .agg #[.bool bres, .slice Ares lres.length cres, .slice Dres mres.length dres]) (by simp [results, Tryz.results68, go_sem, k0, k1, k2]) rfl ⟨_, rfl, HFN.out.1, HFN.out.2⟩
end Go.Proofs.YtpmnhdgajkickaaGreatDoor
