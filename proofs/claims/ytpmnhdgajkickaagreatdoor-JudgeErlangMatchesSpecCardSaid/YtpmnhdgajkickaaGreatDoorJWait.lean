/- Package judge: Erlang's formulas: waiting. Printed by gen_jwait.py. -/
import Derived.Test.YtpmnhdgajkickaaGreatDoorJErl
namespace Go.Proofs.YtpmnhdgajkickaaGreatDoor
open Go Go.RowKit Go.Proofs

theorem er_free {a : Rat} {c : Nat} (ha : 0 < a) (h : a < ((c : Int) : Rat)) : ((c : Int) : Rat) + -(a * (((1 : Int) : Rat) + -(erB a c))) ≠ 0 := by
  have h1 := erW_den ha h
  rw [← Rat.sub_eq_add_neg, ← Rat.sub_eq_add_neg]
  exact h1
theorem er_wait (a : Rat) (c : Nat) : ((c : Int) : Rat) * erB a c / (((c : Int) : Rat) + -(a * (((1 : Int) : Rat) + -(erB a c)))) = erW a c := by
  rw [← Rat.sub_eq_add_neg, ← Rat.sub_eq_add_neg]; rfl
set_option maxHeartbeats 8000000 in
set_option maxRecDepth 100000 in
theorem jWaiting_any (c : Nat) (u : Value) (a : Rat) (w : World) (hc : c ≤ 50) (hu : JQ w u a 1) (h0 : frS a = false) (h1 : 0 < frN a) (h2 : frN a ≤ 1000000) (h3 : a.den ≤ 1000000) (hac : a < ((c : Int) : Rat)) : Calls Tryz.prog 66 #[.int .i64 (c : Nat), u] w (JQPost (erW a c) 212 w) := by
  obtain ⟨sz, hK1, hK2⟩ : ∃ sz, 101 ≤ sz ∧ sz ≤ 101 := ⟨101, Nat.le_refl _, Nat.le_refl _⟩
  have HPOS := Lib.hid (pos_of h0 h1)
  have HNE := Lib.hid (er_free (pos_of h0 h1) hac)
  have HBL := Lib.hid (fun u W (hu : JQ W u a 1) => jBlocked_any c u a W hc hu h0 h1 h2 h3)
  rw [show (101 : Nat) = sz by omega] at HBL
  obtain ⟨bu, U1, d1, k1, U2, d2, k2, rfl⟩ := hu.shape
  obtain ⟨W0, hW0⟩ : ∃ W0, W0 = (w.alloc (.cells #[.bool bu, .slice U1 k1.length d1, .slice U2 k2.length d2] 53)).alloc (.cells #[.bool false, .slice none 0 0, .slice none 0 0] 53) := ⟨_, rfl⟩
  have HST0 := Lib.hid (show St w W0 [(w.heap.size, .cells #[.bool bu, .slice U1 k1.length d1, .slice U2 k2.length d2] 53 (0, 0)), (w.heap.size + 1, .cells #[.bool false, .slice none 0 0, .slice none 0 0] 53 (0, 0))] by rw [hW0]; exact ((St.start w).alloc _ _ rfl).alloc _ _ (by simp))
  have HX0 := Lib.hid (show JBox W0 (w.heap.size + 1) from HST0.out.at 1 rfl)
  have HK := Lib.hid (show ∀ X, Below W0.heap.size W0 X → X.cell? ⟨w.heap.size, 0, none⟩ = some (.bool bu) ∧ X.cell? ⟨w.heap.size, 1, none⟩ = some (.slice U1 k1.length d1) ∧ X.cell? ⟨w.heap.size, 2, none⟩ = some (.slice U2 k2.length d2) from fun X hX => ⟨(HST0.out.call hX).cell 0 0 rfl rfl, (HST0.out.call hX).cell 0 1 rfl rfl, (HST0.out.call hX).cell 0 2 rfl rfl⟩)
  have HU := Lib.hid (hu.on HST0.out.below)
  have HWC := Lib.hid (fun W => jWholeQ (c : Int) W (by omega) (by omega))
  have hs0 : W0.heap.size = w.heap.size + 1 + 1 := by rw [hW0]; simp
  obtain ⟨f0, f1, f2⟩ := HK.out W0 (Below.refl _ _)
  clear hu h0 h1 h2 h3 hac
  go_enter Tryz.func66, Tryz.ntmps66
  go_wp2_with fail
  rw [← hW0]
  clear hW0
  (with_reducible refine (HBL.out _ _ HU.out).mono ?_)
  rintro e w1 ⟨v1, rfl, hv1, hb1⟩
  obtain ⟨bB, B1, z1, t1, B2, z2, t2, rfl⟩ := hv1.shape
  obtain ⟨W2, hW2⟩ : ∃ W2, W2 = w1.alloc (.cells #[.bool bB, .slice B1 t1.length z1, .slice B2 t2.length z2] 53) := ⟨_, rfl⟩
  have hb12 : Below w1.heap.size w1 W2 := by rw [hW2]; exact (Below.refl _ w1).alloc (Nat.le_refl _) _
  have HV2 := Lib.hid (hv1.on hb12)
  have HE2 := Lib.hid (show W2.heap[w1.heap.size]? = some (.cells #[.bool bB, .slice B1 t1.length z1, .slice B2 t2.length z2] 53 (0, 0)) by rw [hW2]; exact alloc_at _ _ _ rfl)
  have HB2 := Lib.hid (below_next hb1 hb12)
  clear hv1 hb1 hb12 f0 f1 f2
  go_wp2_with fail
  rw [← hW2]
  clear hW2
  (with_reducible refine (HWC.out _).mono ?_)
  rintro e w3 ⟨v3, rfl, hv3, hb3⟩
  obtain ⟨bC, C1, z3, t3, C2, z4, t4, rfl⟩ := hv3.shape
  obtain ⟨W5, hW5⟩ : ∃ W5, W5 = w3.alloc (.cells #[.bool bC, .slice C1 t3.length z3, .slice C2 t4.length z4] 53) := ⟨_, rfl⟩
  have hb35 : Below w3.heap.size w3 W5 := by rw [hW5]; exact (Below.refl _ w3).alloc (Nat.le_refl _) _
  have HVC := Lib.hid (hv3.on hb35)
  have HEC := Lib.hid (show W5.heap[w3.heap.size]? = some (.cells #[.bool bC, .slice C1 t3.length z3, .slice C2 t4.length z4] 53 (0, 0)) by rw [hW5]; exact alloc_at _ _ _ rfl)
  have hb25 := below_next hb3 hb35
  have HB5 := Lib.hid (below_next HB2.out hb25)
  have HBB := Lib.hid (HV2.out.on hb25)
  have HEB := Lib.hid ((hb25.block _ (heap_lt HE2.out)).trans HE2.out)
  clear hv3 hb3 hb35 hb25
  go_wp2_with fail
  rw [← hW5]
  clear hW5
  have HKS := Lib.hid (show ∀ X, Below W5.heap.size W5 X → (fun X => Below W5.heap.size W5 X ∧ X.cell? ⟨w1.heap.size, 0, none⟩ = some (.bool bB) ∧ X.cell? ⟨w1.heap.size, 1, none⟩ = some (.slice B1 t1.length z1) ∧ X.cell? ⟨w1.heap.size, 2, none⟩ = some (.slice B2 t2.length z2)) X from fun X hX => by
    have e := (hX.block _ (heap_lt HEB.out)).trans HEB.out
    exact ⟨hX, by rw [cellsAt e]; rfl, by rw [cellsAt e]; rfl, by rw [cellsAt e]; rfl⟩)
  go_cut [7] (fun x wx => ∃ Bf, x = .pointer (some ⟨Bf, 0, none⟩) ∧ JVQ wx Bf (((1 : Int) : Rat) + -(erB a c)) (1 + sz + 3) ∧ Below W5.heap.size W5 wx)
  case first =>
    refine wp_region_noPanic ?_
    refine wp_region_held_drew (S := (fun X => Below W5.heap.size W5 X ∧ X.cell? ⟨w1.heap.size, 0, none⟩ = some (.bool bB) ∧ X.cell? ⟨w1.heap.size, 1, none⟩ = some (.slice B1 t1.length z1) ∧ X.cell? ⟨w1.heap.size, 2, none⟩ = some (.slice B2 t2.length z2))) (by kernel_rfl) (HKS.out _ (Below.refl _ W5).drew) (fun HS0 => ?_)
    have hbx0 : Below W5.heap.size W5 W5.drew := (Below.refl _ _).drew
    obtain ⟨Xx0, hXx0⟩ : ∃ X, X = W5.drew := ⟨_, rfl⟩
    rw [← hXx0] at hbx0 HS0 ⊢
    have HBx0 := Lib.hid hbx0
    clear hbx0 hXx0
    refine wpAnyH_take (i := 1) (v := ?_) rfl (by kernel_rfl) (by kernel_rfl) (by kernel_rfl) (fun _ _ _ h => h) (Or.inl ⟨by rfl, ?_⟩) HS0 ?_
    rotate_left
    · intro W hW; (try dsimp only at hW); go_simp; try (with_reducible rfl)
    (try simp only [List.getElem_toArray, List.getElem_cons_succ, List.getElem_cons_zero, Act.put, List.setIfInBounds_toArray, List.set_cons_zero, List.set_cons_succ])
    clear HS0
    refine wpAnyH_ready (rs := [0, 5]) (by kernel_rfl) (by simp) ?_
    refine AllReadyH.cons rfl (fun K hK => ?_) ?_
    · go_simp
      (with_reducible refine (jWholeQ 1 Xx0 (by omega) (by omega)).mono ?_)
      rintro e Xx1 ⟨v1, rfl, hvx1, hbx1⟩
      have HBx1 := Lib.hid (below_next (HBx0.out) hbx1)
      refine hK.out _ _ (HKS.out _ HBx1.out) ?_
      clear hK K
      intro _
      obtain ⟨bone, Aone, cone, lone, Done, done, mone, rfl⟩ := hvx1.shape
      (try simp only [List.getElem_toArray, List.getElem_cons_succ, List.getElem_cons_zero, Act.put, List.setIfInBounds_toArray, List.set_cons_zero, List.set_cons_succ])
      refine wpAnyH_ready (rs := [2, 5]) (by kernel_rfl) (by simp) ?_
      refine AllReadyH.cons rfl (fun K hK => ?_) ?_
      · go_simp
        (with_reducible refine (jOppQ sz _ (erB a c) Xx1 (HBB.out.on (HBx1.out))).mono ?_)
        rintro e Xx2 ⟨v2, rfl, hvx2, hbx2⟩
        have HBx2 := Lib.hid (below_next (HBx1.out) hbx2)
        refine hK.out _ _ (HKS.out _ HBx2.out) ?_
        clear hK K
        intro _
        obtain ⟨bopp, Aopp, copp, lopp, Dopp, dopp, mopp, rfl⟩ := hvx2.shape
        (try simp only [List.getElem_toArray, List.getElem_cons_succ, List.getElem_cons_zero, Act.put, List.setIfInBounds_toArray, List.set_cons_zero, List.set_cons_succ])
        refine wpAnyH_ready (rs := [3, 5]) (by kernel_rfl) (by simp) ?_
        refine AllReadyH.cons rfl (fun K hK => ?_) ?_
        · go_simp
          obtain ⟨Xx3, hXx3⟩ : ∃ X, X = Xx2.alloc (.cells #[.bool bone, .slice Aone lone.length cone, .slice Done mone.length done, .bool bopp, .slice Aopp lopp.length copp, .slice Dopp mopp.length dopp] 53) := ⟨_, rfl⟩
          have hbx3 : Below Xx2.heap.size Xx2 Xx3 := by rw [hXx3]; exact (Below.refl _ _).alloc (Nat.le_refl _) _
          have HBx3 := Lib.hid (below_next (HBx2.out) hbx3)
          have hTx3 : JTwo Xx3 Xx2.heap.size ((1 : Int) : Rat) (-(erB a c)) 1 sz := ⟨bone, Aone, cone, lone, Done, done, mone, bopp, Aopp, copp, lopp, Dopp, dopp, mopp, _, by rw [hXx3]; exact alloc_at _ _ _ rfl, ((hvx1).on hbx2).on hbx3, (hvx2).on hbx3⟩
          rw [← hXx3]
          clear hXx3
          refine hK.out _ _ (HKS.out _ HBx3.out) ?_
          clear hK K
          intro _
          (try simp only [List.getElem_toArray, List.getElem_cons_succ, List.getElem_cons_zero, Act.put, List.setIfInBounds_toArray, List.set_cons_zero, List.set_cons_succ])
          refine wpAnyH_ready (rs := [4, 5]) (by kernel_rfl) (by simp) ?_
          refine AllReadyH.cons rfl (fun K hK => ?_) ?_
          · go_simp
            (with_reducible refine (jSum_any _ 1 sz _ _ Xx3 (by omega) (by omega) (hTx3)).mono ?_)
            rintro e Xx4 ⟨v4, rfl, hvx4, hbx4⟩
            have HBx4 := Lib.hid (below_next (HBx3.out) hbx4)
            refine hK.out _ _ (HKS.out _ HBx4.out) ?_
            clear hK K
            intro _
            obtain ⟨bsum, Asum, csum, lsum, Dsum, dsum, msum, rfl⟩ := hvx4.shape
            (try simp only [List.getElem_toArray, List.getElem_cons_succ, List.getElem_cons_zero, Act.put, List.setIfInBounds_toArray, List.set_cons_zero, List.set_cons_succ])
            refine run_one (i := 5) (by kernel_rfl) rfl rfl ?_
            intro K hK
            obtain ⟨Xx5, hXx5⟩ : ∃ X, X = Xx4.alloc (.cells #[.bool false, .slice none 0 0, .slice none 0 0] 53) := ⟨_, rfl⟩
            have hbx5 : Below Xx4.heap.size Xx4 Xx5 := by rw [hXx5]; exact (Below.refl _ _).alloc (Nat.le_refl _) _
            have hxx5 : JBox Xx5 Xx4.heap.size := by rw [hXx5]; exact alloc_at _ _ _ rfl
            have HBx5 := Lib.hid (below_next (HBx4.out) hbx5)
            have hwx5 : W5.heap.size ≤ Xx4.heap.size := (HBx4.out).size
            go_simp
            rw [← hXx5]
            clear hXx5
            refine hK.out _ _ (HKS.out _ HBx5.out) ?_
            clear hK K
            intro _
            (try simp only [List.getElem_toArray, List.getElem_cons_succ, List.getElem_cons_zero, Act.put, List.setIfInBounds_toArray, List.set_cons_zero, List.set_cons_succ])
            obtain ⟨k0, k1, k2, z0, z1, z2, hlt⟩ := JBox.facts (hxx5)
            obtain ⟨Xx6, hXx6⟩ : ∃ X, X = ((Xx5.setCell ⟨Xx4.heap.size, 0, none⟩ (.bool bsum)).setCell ⟨Xx4.heap.size, 1, none⟩ (.slice Asum lsum.length csum)).setCell ⟨Xx4.heap.size, 2, none⟩ (.slice Dsum msum.length dsum) := ⟨_, rfl⟩
            have HVx6 := Lib.hid (show JVQ Xx6 Xx4.heap.size _ _ by rw [hXx6]; exact JVQ.set (hxx5) ((hvx4).on hbx5))
            have HBx6 := Lib.hid (show Below W5.heap.size W5 Xx6 by rw [hXx6]; exact (((HBx5.out).setCell (p := ⟨Xx4.heap.size, 0, none⟩) hwx5 _).setCell (p := ⟨Xx4.heap.size, 1, none⟩) hwx5 _).setCell (p := ⟨Xx4.heap.size, 2, none⟩) hwx5 _)
            refine run_one (i := 6) (by kernel_rfl) rfl rfl ?_
            intro K hK
            go_simp
            rw [← hXx6]
            refine hK.out _ _ (HKS.out _ HBx6.out) ?_
            clear hK K k0 k1 k2 z0 z1 z2 hlt hXx6
            intro _
            (try simp only [List.getElem_toArray, List.getElem_cons_succ, List.getElem_cons_zero, Act.put, List.setIfInBounds_toArray, List.set_cons_zero, List.set_cons_succ])
            refine wpAnyH_done (by kernel_rfl) ?_ _
            refine NoPanic.normal ?_
            go_wp2_with fail
            go_meet
            exact ⟨Xx4.heap.size, rfl, HVx6.out, HBx6.out⟩
          refine AllReadyH.cons rfl (fun K hK => ?_) ?_
          · obtain ⟨Xx7, hXx7⟩ : ∃ X, X = Xx3.alloc (.cells #[.bool false, .slice none 0 0, .slice none 0 0] 53) := ⟨_, rfl⟩
            have hbx7 : Below Xx3.heap.size Xx3 Xx7 := by rw [hXx7]; exact (Below.refl _ _).alloc (Nat.le_refl _) _
            have hxx7 : JBox Xx7 Xx3.heap.size := by rw [hXx7]; exact alloc_at _ _ _ rfl
            have HBx7 := Lib.hid (below_next (HBx3.out) hbx7)
            have hwx7 : W5.heap.size ≤ Xx3.heap.size := (HBx3.out).size
            go_simp
            rw [← hXx7]
            clear hXx7
            refine hK.out _ _ (HKS.out _ HBx7.out) ?_
            clear hK K
            intro _
            (try simp only [List.getElem_toArray, List.getElem_cons_succ, List.getElem_cons_zero, Act.put, List.setIfInBounds_toArray, List.set_cons_zero, List.set_cons_succ])
            refine run_one (i := 4) (by kernel_rfl) rfl rfl ?_
            intro K hK
            go_simp
            (with_reducible refine (jSum_any _ 1 sz _ _ Xx7 (by omega) (by omega) ((hTx3).on hbx7)).mono ?_)
            rintro e Xx8 ⟨v8, rfl, hvx8, hbx8⟩
            have HBx8 := Lib.hid (below_next (HBx7.out) hbx8)
            refine hK.out _ _ (HKS.out _ HBx8.out) ?_
            clear hK K
            intro _
            obtain ⟨bsum, Asum, csum, lsum, Dsum, dsum, msum, rfl⟩ := hvx8.shape
            (try simp only [List.getElem_toArray, List.getElem_cons_succ, List.getElem_cons_zero, Act.put, List.setIfInBounds_toArray, List.set_cons_zero, List.set_cons_succ])
            obtain ⟨k0, k1, k2, z0, z1, z2, hlt⟩ := JBox.facts ((JBox.on hxx7 hbx8))
            obtain ⟨Xx9, hXx9⟩ : ∃ X, X = ((Xx8.setCell ⟨Xx3.heap.size, 0, none⟩ (.bool bsum)).setCell ⟨Xx3.heap.size, 1, none⟩ (.slice Asum lsum.length csum)).setCell ⟨Xx3.heap.size, 2, none⟩ (.slice Dsum msum.length dsum) := ⟨_, rfl⟩
            have HVx9 := Lib.hid (show JVQ Xx9 Xx3.heap.size _ _ by rw [hXx9]; exact JVQ.set ((JBox.on hxx7 hbx8)) (hvx8))
            have HBx9 := Lib.hid (show Below W5.heap.size W5 Xx9 by rw [hXx9]; exact (((HBx8.out).setCell (p := ⟨Xx3.heap.size, 0, none⟩) hwx7 _).setCell (p := ⟨Xx3.heap.size, 1, none⟩) hwx7 _).setCell (p := ⟨Xx3.heap.size, 2, none⟩) hwx7 _)
            refine run_one (i := 6) (by kernel_rfl) rfl rfl ?_
            intro K hK
            go_simp
            rw [← hXx9]
            refine hK.out _ _ (HKS.out _ HBx9.out) ?_
            clear hK K k0 k1 k2 z0 z1 z2 hlt hXx9
            intro _
            (try simp only [List.getElem_toArray, List.getElem_cons_succ, List.getElem_cons_zero, Act.put, List.setIfInBounds_toArray, List.set_cons_zero, List.set_cons_succ])
            refine wpAnyH_done (by kernel_rfl) ?_ _
            refine NoPanic.normal ?_
            go_wp2_with fail
            go_meet
            exact ⟨Xx3.heap.size, rfl, HVx9.out, HBx9.out⟩
          exact AllReadyH.nil
        refine AllReadyH.cons rfl (fun K hK => ?_) ?_
        · obtain ⟨Xx10, hXx10⟩ : ∃ X, X = Xx2.alloc (.cells #[.bool false, .slice none 0 0, .slice none 0 0] 53) := ⟨_, rfl⟩
          have hbx10 : Below Xx2.heap.size Xx2 Xx10 := by rw [hXx10]; exact (Below.refl _ _).alloc (Nat.le_refl _) _
          have hxx10 : JBox Xx10 Xx2.heap.size := by rw [hXx10]; exact alloc_at _ _ _ rfl
          have HBx10 := Lib.hid (below_next (HBx2.out) hbx10)
          have hwx10 : W5.heap.size ≤ Xx2.heap.size := (HBx2.out).size
          go_simp
          rw [← hXx10]
          clear hXx10
          refine hK.out _ _ (HKS.out _ HBx10.out) ?_
          clear hK K
          intro _
          (try simp only [List.getElem_toArray, List.getElem_cons_succ, List.getElem_cons_zero, Act.put, List.setIfInBounds_toArray, List.set_cons_zero, List.set_cons_succ])
          refine run_one (i := 3) (by kernel_rfl) rfl rfl ?_
          intro K hK
          go_simp
          obtain ⟨Xx11, hXx11⟩ : ∃ X, X = Xx10.alloc (.cells #[.bool bone, .slice Aone lone.length cone, .slice Done mone.length done, .bool bopp, .slice Aopp lopp.length copp, .slice Dopp mopp.length dopp] 53) := ⟨_, rfl⟩
          have hbx11 : Below Xx10.heap.size Xx10 Xx11 := by rw [hXx11]; exact (Below.refl _ _).alloc (Nat.le_refl _) _
          have HBx11 := Lib.hid (below_next (HBx10.out) hbx11)
          have hTx11 : JTwo Xx11 Xx10.heap.size ((1 : Int) : Rat) (-(erB a c)) 1 sz := ⟨bone, Aone, cone, lone, Done, done, mone, bopp, Aopp, copp, lopp, Dopp, dopp, mopp, _, by rw [hXx11]; exact alloc_at _ _ _ rfl, (((hvx1).on hbx2).on hbx10).on hbx11, ((hvx2).on hbx10).on hbx11⟩
          rw [← hXx11]
          clear hXx11
          refine hK.out _ _ (HKS.out _ HBx11.out) ?_
          clear hK K
          intro _
          (try simp only [List.getElem_toArray, List.getElem_cons_succ, List.getElem_cons_zero, Act.put, List.setIfInBounds_toArray, List.set_cons_zero, List.set_cons_succ])
          refine run_one (i := 4) (by kernel_rfl) rfl rfl ?_
          intro K hK
          go_simp
          (with_reducible refine (jSum_any _ 1 sz _ _ Xx11 (by omega) (by omega) (hTx11)).mono ?_)
          rintro e Xx12 ⟨v12, rfl, hvx12, hbx12⟩
          have HBx12 := Lib.hid (below_next (HBx11.out) hbx12)
          refine hK.out _ _ (HKS.out _ HBx12.out) ?_
          clear hK K
          intro _
          obtain ⟨bsum, Asum, csum, lsum, Dsum, dsum, msum, rfl⟩ := hvx12.shape
          (try simp only [List.getElem_toArray, List.getElem_cons_succ, List.getElem_cons_zero, Act.put, List.setIfInBounds_toArray, List.set_cons_zero, List.set_cons_succ])
          obtain ⟨k0, k1, k2, z0, z1, z2, hlt⟩ := JBox.facts ((JBox.on (JBox.on hxx10 hbx11) hbx12))
          obtain ⟨Xx13, hXx13⟩ : ∃ X, X = ((Xx12.setCell ⟨Xx2.heap.size, 0, none⟩ (.bool bsum)).setCell ⟨Xx2.heap.size, 1, none⟩ (.slice Asum lsum.length csum)).setCell ⟨Xx2.heap.size, 2, none⟩ (.slice Dsum msum.length dsum) := ⟨_, rfl⟩
          have HVx13 := Lib.hid (show JVQ Xx13 Xx2.heap.size _ _ by rw [hXx13]; exact JVQ.set ((JBox.on (JBox.on hxx10 hbx11) hbx12)) (hvx12))
          have HBx13 := Lib.hid (show Below W5.heap.size W5 Xx13 by rw [hXx13]; exact (((HBx12.out).setCell (p := ⟨Xx2.heap.size, 0, none⟩) hwx10 _).setCell (p := ⟨Xx2.heap.size, 1, none⟩) hwx10 _).setCell (p := ⟨Xx2.heap.size, 2, none⟩) hwx10 _)
          refine run_one (i := 6) (by kernel_rfl) rfl rfl ?_
          intro K hK
          go_simp
          rw [← hXx13]
          refine hK.out _ _ (HKS.out _ HBx13.out) ?_
          clear hK K k0 k1 k2 z0 z1 z2 hlt hXx13
          intro _
          (try simp only [List.getElem_toArray, List.getElem_cons_succ, List.getElem_cons_zero, Act.put, List.setIfInBounds_toArray, List.set_cons_zero, List.set_cons_succ])
          refine wpAnyH_done (by kernel_rfl) ?_ _
          refine NoPanic.normal ?_
          go_wp2_with fail
          go_meet
          exact ⟨Xx2.heap.size, rfl, HVx13.out, HBx13.out⟩
        exact AllReadyH.nil
      refine AllReadyH.cons rfl (fun K hK => ?_) ?_
      · obtain ⟨Xx14, hXx14⟩ : ∃ X, X = Xx1.alloc (.cells #[.bool false, .slice none 0 0, .slice none 0 0] 53) := ⟨_, rfl⟩
        have hbx14 : Below Xx1.heap.size Xx1 Xx14 := by rw [hXx14]; exact (Below.refl _ _).alloc (Nat.le_refl _) _
        have hxx14 : JBox Xx14 Xx1.heap.size := by rw [hXx14]; exact alloc_at _ _ _ rfl
        have HBx14 := Lib.hid (below_next (HBx1.out) hbx14)
        have hwx14 : W5.heap.size ≤ Xx1.heap.size := (HBx1.out).size
        go_simp
        rw [← hXx14]
        clear hXx14
        refine hK.out _ _ (HKS.out _ HBx14.out) ?_
        clear hK K
        intro _
        (try simp only [List.getElem_toArray, List.getElem_cons_succ, List.getElem_cons_zero, Act.put, List.setIfInBounds_toArray, List.set_cons_zero, List.set_cons_succ])
        refine run_one (i := 2) (by kernel_rfl) rfl rfl ?_
        intro K hK
        go_simp
        (with_reducible refine (jOppQ sz _ (erB a c) Xx14 (HBB.out.on (HBx14.out))).mono ?_)
        rintro e Xx15 ⟨v15, rfl, hvx15, hbx15⟩
        have HBx15 := Lib.hid (below_next (HBx14.out) hbx15)
        refine hK.out _ _ (HKS.out _ HBx15.out) ?_
        clear hK K
        intro _
        obtain ⟨bopp, Aopp, copp, lopp, Dopp, dopp, mopp, rfl⟩ := hvx15.shape
        (try simp only [List.getElem_toArray, List.getElem_cons_succ, List.getElem_cons_zero, Act.put, List.setIfInBounds_toArray, List.set_cons_zero, List.set_cons_succ])
        refine run_one (i := 3) (by kernel_rfl) rfl rfl ?_
        intro K hK
        go_simp
        obtain ⟨Xx16, hXx16⟩ : ∃ X, X = Xx15.alloc (.cells #[.bool bone, .slice Aone lone.length cone, .slice Done mone.length done, .bool bopp, .slice Aopp lopp.length copp, .slice Dopp mopp.length dopp] 53) := ⟨_, rfl⟩
        have hbx16 : Below Xx15.heap.size Xx15 Xx16 := by rw [hXx16]; exact (Below.refl _ _).alloc (Nat.le_refl _) _
        have HBx16 := Lib.hid (below_next (HBx15.out) hbx16)
        have hTx16 : JTwo Xx16 Xx15.heap.size ((1 : Int) : Rat) (-(erB a c)) 1 sz := ⟨bone, Aone, cone, lone, Done, done, mone, bopp, Aopp, copp, lopp, Dopp, dopp, mopp, _, by rw [hXx16]; exact alloc_at _ _ _ rfl, (((hvx1).on hbx14).on hbx15).on hbx16, (hvx15).on hbx16⟩
        rw [← hXx16]
        clear hXx16
        refine hK.out _ _ (HKS.out _ HBx16.out) ?_
        clear hK K
        intro _
        (try simp only [List.getElem_toArray, List.getElem_cons_succ, List.getElem_cons_zero, Act.put, List.setIfInBounds_toArray, List.set_cons_zero, List.set_cons_succ])
        refine run_one (i := 4) (by kernel_rfl) rfl rfl ?_
        intro K hK
        go_simp
        (with_reducible refine (jSum_any _ 1 sz _ _ Xx16 (by omega) (by omega) (hTx16)).mono ?_)
        rintro e Xx17 ⟨v17, rfl, hvx17, hbx17⟩
        have HBx17 := Lib.hid (below_next (HBx16.out) hbx17)
        refine hK.out _ _ (HKS.out _ HBx17.out) ?_
        clear hK K
        intro _
        obtain ⟨bsum, Asum, csum, lsum, Dsum, dsum, msum, rfl⟩ := hvx17.shape
        (try simp only [List.getElem_toArray, List.getElem_cons_succ, List.getElem_cons_zero, Act.put, List.setIfInBounds_toArray, List.set_cons_zero, List.set_cons_succ])
        obtain ⟨k0, k1, k2, z0, z1, z2, hlt⟩ := JBox.facts ((JBox.on (JBox.on (JBox.on hxx14 hbx15) hbx16) hbx17))
        obtain ⟨Xx18, hXx18⟩ : ∃ X, X = ((Xx17.setCell ⟨Xx1.heap.size, 0, none⟩ (.bool bsum)).setCell ⟨Xx1.heap.size, 1, none⟩ (.slice Asum lsum.length csum)).setCell ⟨Xx1.heap.size, 2, none⟩ (.slice Dsum msum.length dsum) := ⟨_, rfl⟩
        have HVx18 := Lib.hid (show JVQ Xx18 Xx1.heap.size _ _ by rw [hXx18]; exact JVQ.set ((JBox.on (JBox.on (JBox.on hxx14 hbx15) hbx16) hbx17)) (hvx17))
        have HBx18 := Lib.hid (show Below W5.heap.size W5 Xx18 by rw [hXx18]; exact (((HBx17.out).setCell (p := ⟨Xx1.heap.size, 0, none⟩) hwx14 _).setCell (p := ⟨Xx1.heap.size, 1, none⟩) hwx14 _).setCell (p := ⟨Xx1.heap.size, 2, none⟩) hwx14 _)
        refine run_one (i := 6) (by kernel_rfl) rfl rfl ?_
        intro K hK
        go_simp
        rw [← hXx18]
        refine hK.out _ _ (HKS.out _ HBx18.out) ?_
        clear hK K k0 k1 k2 z0 z1 z2 hlt hXx18
        intro _
        (try simp only [List.getElem_toArray, List.getElem_cons_succ, List.getElem_cons_zero, Act.put, List.setIfInBounds_toArray, List.set_cons_zero, List.set_cons_succ])
        refine wpAnyH_done (by kernel_rfl) ?_ _
        refine NoPanic.normal ?_
        go_wp2_with fail
        go_meet
        exact ⟨Xx1.heap.size, rfl, HVx18.out, HBx18.out⟩
      exact AllReadyH.nil
    refine AllReadyH.cons rfl (fun K hK => ?_) ?_
    · obtain ⟨Xx19, hXx19⟩ : ∃ X, X = Xx0.alloc (.cells #[.bool false, .slice none 0 0, .slice none 0 0] 53) := ⟨_, rfl⟩
      have hbx19 : Below Xx0.heap.size Xx0 Xx19 := by rw [hXx19]; exact (Below.refl _ _).alloc (Nat.le_refl _) _
      have hxx19 : JBox Xx19 Xx0.heap.size := by rw [hXx19]; exact alloc_at _ _ _ rfl
      have HBx19 := Lib.hid (below_next (HBx0.out) hbx19)
      have hwx19 : W5.heap.size ≤ Xx0.heap.size := (HBx0.out).size
      go_simp
      rw [← hXx19]
      clear hXx19
      refine hK.out _ _ (HKS.out _ HBx19.out) ?_
      clear hK K
      intro _
      (try simp only [List.getElem_toArray, List.getElem_cons_succ, List.getElem_cons_zero, Act.put, List.setIfInBounds_toArray, List.set_cons_zero, List.set_cons_succ])
      refine run_one (i := 0) (by kernel_rfl) rfl rfl ?_
      intro K hK
      go_simp
      (with_reducible refine (jWholeQ 1 Xx19 (by omega) (by omega)).mono ?_)
      rintro e Xx20 ⟨v20, rfl, hvx20, hbx20⟩
      have HBx20 := Lib.hid (below_next (HBx19.out) hbx20)
      refine hK.out _ _ (HKS.out _ HBx20.out) ?_
      clear hK K
      intro _
      obtain ⟨bone, Aone, cone, lone, Done, done, mone, rfl⟩ := hvx20.shape
      (try simp only [List.getElem_toArray, List.getElem_cons_succ, List.getElem_cons_zero, Act.put, List.setIfInBounds_toArray, List.set_cons_zero, List.set_cons_succ])
      refine run_one (i := 2) (by kernel_rfl) rfl rfl ?_
      intro K hK
      go_simp
      (with_reducible refine (jOppQ sz _ (erB a c) Xx20 (HBB.out.on (HBx20.out))).mono ?_)
      rintro e Xx21 ⟨v21, rfl, hvx21, hbx21⟩
      have HBx21 := Lib.hid (below_next (HBx20.out) hbx21)
      refine hK.out _ _ (HKS.out _ HBx21.out) ?_
      clear hK K
      intro _
      obtain ⟨bopp, Aopp, copp, lopp, Dopp, dopp, mopp, rfl⟩ := hvx21.shape
      (try simp only [List.getElem_toArray, List.getElem_cons_succ, List.getElem_cons_zero, Act.put, List.setIfInBounds_toArray, List.set_cons_zero, List.set_cons_succ])
      refine run_one (i := 3) (by kernel_rfl) rfl rfl ?_
      intro K hK
      go_simp
      obtain ⟨Xx22, hXx22⟩ : ∃ X, X = Xx21.alloc (.cells #[.bool bone, .slice Aone lone.length cone, .slice Done mone.length done, .bool bopp, .slice Aopp lopp.length copp, .slice Dopp mopp.length dopp] 53) := ⟨_, rfl⟩
      have hbx22 : Below Xx21.heap.size Xx21 Xx22 := by rw [hXx22]; exact (Below.refl _ _).alloc (Nat.le_refl _) _
      have HBx22 := Lib.hid (below_next (HBx21.out) hbx22)
      have hTx22 : JTwo Xx22 Xx21.heap.size ((1 : Int) : Rat) (-(erB a c)) 1 sz := ⟨bone, Aone, cone, lone, Done, done, mone, bopp, Aopp, copp, lopp, Dopp, dopp, mopp, _, by rw [hXx22]; exact alloc_at _ _ _ rfl, ((hvx20).on hbx21).on hbx22, (hvx21).on hbx22⟩
      rw [← hXx22]
      clear hXx22
      refine hK.out _ _ (HKS.out _ HBx22.out) ?_
      clear hK K
      intro _
      (try simp only [List.getElem_toArray, List.getElem_cons_succ, List.getElem_cons_zero, Act.put, List.setIfInBounds_toArray, List.set_cons_zero, List.set_cons_succ])
      refine run_one (i := 4) (by kernel_rfl) rfl rfl ?_
      intro K hK
      go_simp
      (with_reducible refine (jSum_any _ 1 sz _ _ Xx22 (by omega) (by omega) (hTx22)).mono ?_)
      rintro e Xx23 ⟨v23, rfl, hvx23, hbx23⟩
      have HBx23 := Lib.hid (below_next (HBx22.out) hbx23)
      refine hK.out _ _ (HKS.out _ HBx23.out) ?_
      clear hK K
      intro _
      obtain ⟨bsum, Asum, csum, lsum, Dsum, dsum, msum, rfl⟩ := hvx23.shape
      (try simp only [List.getElem_toArray, List.getElem_cons_succ, List.getElem_cons_zero, Act.put, List.setIfInBounds_toArray, List.set_cons_zero, List.set_cons_succ])
      obtain ⟨k0, k1, k2, z0, z1, z2, hlt⟩ := JBox.facts ((JBox.on (JBox.on (JBox.on (JBox.on hxx19 hbx20) hbx21) hbx22) hbx23))
      obtain ⟨Xx24, hXx24⟩ : ∃ X, X = ((Xx23.setCell ⟨Xx0.heap.size, 0, none⟩ (.bool bsum)).setCell ⟨Xx0.heap.size, 1, none⟩ (.slice Asum lsum.length csum)).setCell ⟨Xx0.heap.size, 2, none⟩ (.slice Dsum msum.length dsum) := ⟨_, rfl⟩
      have HVx24 := Lib.hid (show JVQ Xx24 Xx0.heap.size _ _ by rw [hXx24]; exact JVQ.set ((JBox.on (JBox.on (JBox.on (JBox.on hxx19 hbx20) hbx21) hbx22) hbx23)) (hvx23))
      have HBx24 := Lib.hid (show Below W5.heap.size W5 Xx24 by rw [hXx24]; exact (((HBx23.out).setCell (p := ⟨Xx0.heap.size, 0, none⟩) hwx19 _).setCell (p := ⟨Xx0.heap.size, 1, none⟩) hwx19 _).setCell (p := ⟨Xx0.heap.size, 2, none⟩) hwx19 _)
      refine run_one (i := 6) (by kernel_rfl) rfl rfl ?_
      intro K hK
      go_simp
      rw [← hXx24]
      refine hK.out _ _ (HKS.out _ HBx24.out) ?_
      clear hK K k0 k1 k2 z0 z1 z2 hlt hXx24
      intro _
      (try simp only [List.getElem_toArray, List.getElem_cons_succ, List.getElem_cons_zero, Act.put, List.setIfInBounds_toArray, List.set_cons_zero, List.set_cons_succ])
      refine wpAnyH_done (by kernel_rfl) ?_ _
      refine NoPanic.normal ?_
      go_wp2_with fail
      go_meet
      exact ⟨Xx0.heap.size, rfl, HVx24.out, HBx24.out⟩
    exact AllReadyH.nil
  case rest =>
    obtain ⟨Bf, rfl, hvf, hbc⟩ := hcut
    obtain ⟨bF, F1, z5, t5, F2, z6, t6, hget, hjf⟩ := hvf.get
    have HBB6 := Lib.hid (below_next HB5.out hbc)
    have HX6 := Lib.hid (HX0.out.on HBB6.out)
    have HB6B := Lib.hid (HBB.out.on hbc)
    have HB6C := Lib.hid (HVC.out.on hbc)
    have HB6U := Lib.hid (HU.out.on HBB6.out)
    have HB6F := Lib.hid hjf
    have HKS := Lib.hid (show ∀ X, Below wc.heap.size wc X → (fun X => Below wc.heap.size wc X ∧ X.cell? ⟨w1.heap.size, 0, none⟩ = some (.bool bB) ∧ X.cell? ⟨w1.heap.size, 1, none⟩ = some (.slice B1 t1.length z1) ∧ X.cell? ⟨w1.heap.size, 2, none⟩ = some (.slice B2 t2.length z2) ∧ X.cell? ⟨w3.heap.size, 0, none⟩ = some (.bool bC) ∧ X.cell? ⟨w3.heap.size, 1, none⟩ = some (.slice C1 t3.length z3) ∧ X.cell? ⟨w3.heap.size, 2, none⟩ = some (.slice C2 t4.length z4) ∧ X.cell? ⟨w.heap.size, 0, none⟩ = some (.bool bu) ∧ X.cell? ⟨w.heap.size, 1, none⟩ = some (.slice U1 k1.length d1) ∧ X.cell? ⟨w.heap.size, 2, none⟩ = some (.slice U2 k2.length d2) ∧ X.cell? ⟨Bf, 0, none⟩ = some (.bool bF) ∧ X.cell? ⟨Bf, 1, none⟩ = some (.slice F1 t5.length z5) ∧ X.cell? ⟨Bf, 2, none⟩ = some (.slice F2 t6.length z6)) X from fun X hX => by
      have e1 := ((below_next hbc hX).block _ (heap_lt HEB.out)).trans HEB.out
      have e2 := ((below_next hbc hX).block _ (heap_lt HEC.out)).trans HEC.out
      obtain ⟨u0, u1, u2⟩ := HK.out X (below_next HBB6.out hX)
      obtain ⟨y0, y1, y2, -, -, -, -⟩ := hget X hX
      exact ⟨hX, by rw [cellsAt e1]; rfl, by rw [cellsAt e1]; rfl, by rw [cellsAt e1]; rfl, by rw [cellsAt e2]; rfl, by rw [cellsAt e2]; rfl, by rw [cellsAt e2]; rfl, u0, u1, u2, y0, y1, y2⟩)
    clear hvf hget hjf hbc
    go_wp2_with fail
    refine wp_region_last (init := #[_, _, _, _, _, _, _, _, _, _, _]) (last := _) rfl (by kernel_rfl) (by kernel_rfl) (by kernel_rfl) ?_
    show wpAny _ _ _ _ 11 (Array.replicate 11 false) _ wc.drew
    refine wpAny_of_held (S := (fun X => Below wc.heap.size wc X ∧ X.cell? ⟨w1.heap.size, 0, none⟩ = some (.bool bB) ∧ X.cell? ⟨w1.heap.size, 1, none⟩ = some (.slice B1 t1.length z1) ∧ X.cell? ⟨w1.heap.size, 2, none⟩ = some (.slice B2 t2.length z2) ∧ X.cell? ⟨w3.heap.size, 0, none⟩ = some (.bool bC) ∧ X.cell? ⟨w3.heap.size, 1, none⟩ = some (.slice C1 t3.length z3) ∧ X.cell? ⟨w3.heap.size, 2, none⟩ = some (.slice C2 t4.length z4) ∧ X.cell? ⟨w.heap.size, 0, none⟩ = some (.bool bu) ∧ X.cell? ⟨w.heap.size, 1, none⟩ = some (.slice U1 k1.length d1) ∧ X.cell? ⟨w.heap.size, 2, none⟩ = some (.slice U2 k2.length d2) ∧ X.cell? ⟨Bf, 0, none⟩ = some (.bool bF) ∧ X.cell? ⟨Bf, 1, none⟩ = some (.slice F1 t5.length z5) ∧ X.cell? ⟨Bf, 2, none⟩ = some (.slice F2 t6.length z6))) _ _ _ _ ?_
    have HS0 := HKS.out _ (Below.refl _ wc).drew
    have hbx0 : Below wc.heap.size wc wc.drew := (Below.refl _ _).drew
    obtain ⟨Xx0, hXx0⟩ : ∃ X, X = wc.drew := ⟨_, rfl⟩
    rw [← hXx0] at hbx0 HS0 ⊢
    have HBx0 := Lib.hid hbx0
    clear hbx0 hXx0
    refine wpAnyH_take (i := 0) (v := ?_) rfl (by kernel_rfl) (by kernel_rfl) (by kernel_rfl) (fun _ _ _ h => h) (Or.inl ⟨by rfl, ?_⟩) HS0 ?_
    rotate_left
    · intro W hW; (try dsimp only at hW); go_simp; try (with_reducible rfl)
    (try simp only [List.getElem_toArray, List.getElem_cons_succ, List.getElem_cons_zero, Act.put, List.setIfInBounds_toArray, List.set_cons_zero, List.set_cons_succ])
    refine wpAnyH_take (i := 1) (v := ?_) rfl (by kernel_rfl) (by kernel_rfl) (by kernel_rfl) (fun _ _ _ h => h) (Or.inl ⟨by rfl, ?_⟩) HS0 ?_
    rotate_left
    · intro W hW; (try dsimp only at hW); go_simp; try (with_reducible rfl)
    (try simp only [List.getElem_toArray, List.getElem_cons_succ, List.getElem_cons_zero, Act.put, List.setIfInBounds_toArray, List.set_cons_zero, List.set_cons_succ])
    refine wpAnyH_take (i := 3) (v := ?_) rfl (by kernel_rfl) (by kernel_rfl) (by kernel_rfl) (fun _ _ _ h => h) (Or.inl ⟨by rfl, ?_⟩) HS0 ?_
    rotate_left
    · intro W hW; (try dsimp only at hW); go_simp; try (with_reducible rfl)
    (try simp only [List.getElem_toArray, List.getElem_cons_succ, List.getElem_cons_zero, Act.put, List.setIfInBounds_toArray, List.set_cons_zero, List.set_cons_succ])
    refine wpAnyH_take (i := 4) (v := ?_) rfl (by kernel_rfl) (by kernel_rfl) (by kernel_rfl) (fun _ _ _ h => h) (Or.inl ⟨by rfl, ?_⟩) HS0 ?_
    rotate_left
    · intro W hW; (try dsimp only at hW); go_simp; try (with_reducible rfl)
    (try simp only [List.getElem_toArray, List.getElem_cons_succ, List.getElem_cons_zero, Act.put, List.setIfInBounds_toArray, List.set_cons_zero, List.set_cons_succ])
    refine wpAnyH_take (i := 5) (v := ?_) rfl (by kernel_rfl) (by kernel_rfl) (by kernel_rfl) (fun _ _ _ h => h) (Or.inl ⟨by rfl, ?_⟩) HS0 ?_
    rotate_left
    · intro W hW; (try dsimp only at hW); go_simp; try (with_reducible rfl)
    (try simp only [List.getElem_toArray, List.getElem_cons_succ, List.getElem_cons_zero, Act.put, List.setIfInBounds_toArray, List.set_cons_zero, List.set_cons_succ])
    clear HS0
    refine run_one (i := 2) (by kernel_rfl) rfl rfl ?_
    intro K hK
    go_simp
    (with_reducible refine (jTimesQ 1 sz _ _ ((c : Int) : Rat) (erB a c) Xx0 (by omega) (by omega) (HB6C.out.on (HBx0.out)) (HB6B.out.on (HBx0.out))).mono ?_)
    rintro e Xx1 ⟨v1, rfl, hvx1, hbx1⟩
    have HBx1 := Lib.hid (below_next (HBx0.out) hbx1)
    refine hK.out _ _ (HKS.out _ HBx1.out) ?_
    clear hK K
    intro _
    obtain ⟨bcb, Acb, ccb, lcb, Dcb, dcb, mcb, rfl⟩ := hvx1.shape
    (try simp only [List.getElem_toArray, List.getElem_cons_succ, List.getElem_cons_zero, Act.put, List.setIfInBounds_toArray, List.set_cons_zero, List.set_cons_succ])
    refine run_one (i := 6) (by kernel_rfl) rfl rfl ?_
    intro K hK
    go_simp
    (with_reducible refine (jTimesQ 1 (1 + sz + 3) _ _ a _ Xx1 (by omega) (by omega) (HB6U.out.on (HBx1.out)) (HB6F.out.on (HBx1.out))).mono ?_)
    rintro e Xx2 ⟨v2, rfl, hvx2, hbx2⟩
    have HBx2 := Lib.hid (below_next (HBx1.out) hbx2)
    refine hK.out _ _ (HKS.out _ HBx2.out) ?_
    clear hK K
    intro _
    obtain ⟨bof, Aof, cof, lof, Dof, dof, mof, rfl⟩ := hvx2.shape
    (try simp only [List.getElem_toArray, List.getElem_cons_succ, List.getElem_cons_zero, Act.put, List.setIfInBounds_toArray, List.set_cons_zero, List.set_cons_succ])
    refine run_one (i := 7) (by kernel_rfl) rfl rfl ?_
    intro K hK
    go_simp
    (with_reducible refine (jOppQ _ _ _ Xx2 (hvx2)).mono ?_)
    rintro e Xx3 ⟨v3, rfl, hvx3, hbx3⟩
    have HBx3 := Lib.hid (below_next (HBx2.out) hbx3)
    refine hK.out _ _ (HKS.out _ HBx3.out) ?_
    clear hK K
    intro _
    obtain ⟨bopp, Aopp, copp, lopp, Dopp, dopp, mopp, rfl⟩ := hvx3.shape
    (try simp only [List.getElem_toArray, List.getElem_cons_succ, List.getElem_cons_zero, Act.put, List.setIfInBounds_toArray, List.set_cons_zero, List.set_cons_succ])
    refine run_one (i := 8) (by kernel_rfl) rfl rfl ?_
    intro K hK
    go_simp
    obtain ⟨Xx4, hXx4⟩ : ∃ X, X = Xx3.alloc (.cells #[.bool bC, .slice C1 t3.length z3, .slice C2 t4.length z4, .bool bopp, .slice Aopp lopp.length copp, .slice Dopp mopp.length dopp] 53) := ⟨_, rfl⟩
    have hbx4 : Below Xx3.heap.size Xx3 Xx4 := by rw [hXx4]; exact (Below.refl _ _).alloc (Nat.le_refl _) _
    have HBx4 := Lib.hid (below_next (HBx3.out) hbx4)
    have hTx4 : JTwo Xx4 Xx3.heap.size ((c : Int) : Rat) (-(a * (((1 : Int) : Rat) + -(erB a c)))) 1 (1 + (1 + sz + 3)) := ⟨bC, C1, z3, t3, C2, z4, t4, bopp, Aopp, copp, lopp, Dopp, dopp, mopp, _, by rw [hXx4]; exact alloc_at _ _ _ rfl, HB6C.out.on HBx4.out, (hvx3).on hbx4⟩
    rw [← hXx4]
    clear hXx4
    refine hK.out _ _ (HKS.out _ HBx4.out) ?_
    clear hK K
    intro _
    (try simp only [List.getElem_toArray, List.getElem_cons_succ, List.getElem_cons_zero, Act.put, List.setIfInBounds_toArray, List.set_cons_zero, List.set_cons_succ])
    refine run_one (i := 9) (by kernel_rfl) rfl rfl ?_
    intro K hK
    go_simp
    (with_reducible refine (jSum_any _ 1 (1 + (1 + sz + 3)) _ _ Xx4 (by omega) (by omega) (hTx4)).mono ?_)
    rintro e Xx5 ⟨v5, rfl, hvx5, hbx5⟩
    have HBx5 := Lib.hid (below_next (HBx4.out) hbx5)
    refine hK.out _ _ (HKS.out _ HBx5.out) ?_
    clear hK K
    intro _
    obtain ⟨bsum, Asum, csum, lsum, Dsum, dsum, msum, rfl⟩ := hvx5.shape
    (try simp only [List.getElem_toArray, List.getElem_cons_succ, List.getElem_cons_zero, Act.put, List.setIfInBounds_toArray, List.set_cons_zero, List.set_cons_succ])
    refine run_one (i := 10) (by kernel_rfl) rfl rfl ?_
    intro K hK
    go_simp
    (with_reducible refine (jOverQ (1 + sz) (1 + (1 + (1 + sz + 3)) + 3) _ _ _ _ Xx5 (by omega) (by omega) (((((hvx1).on hbx2).on hbx3).on hbx4).on hbx5) (hvx5) HNE.out).mono ?_)
    rintro e Xx6 ⟨v6, rfl, hvx6, hbx6⟩
    have HBx6 := Lib.hid (below_next (HBx5.out) hbx6)
    refine hK.out _ _ (HKS.out _ HBx6.out) ?_
    clear hK K
    intro _
    obtain ⟨bres, Ares, cres, lres, Dres, dres, mres, rfl⟩ := hvx6.shape
    (try simp only [List.getElem_toArray, List.getElem_cons_succ, List.getElem_cons_zero, Act.put, List.setIfInBounds_toArray, List.set_cons_zero, List.set_cons_succ])
    refine wpAnyH_done (by kernel_rfl) ?_ _
    simp only [LastQ]
    obtain ⟨k0, k1, k2, s0, s1, s2, hlt⟩ := (HX6.out.on (HBx6.out)).facts
    have HFN := Lib.hid (jq_ret (HX6.out.on (HBx6.out)) (hvx6) (below_next HST0.out.below (below_next HBB6.out (HBx6.out))) (by omega) (fr3 (w := Xx6) (B := w.heap.size + 1) (.bool bres) (.slice Ares lres.length cres) (.slice Dres mres.length dres)))
    go_simp
    go_wp2
    refine bodyPost_ret (v := .agg #[.bool bres, .slice Ares lres.length cres, .slice Dres mres.length dres]) (by simp [results, Tryz.results66, go_sem, k0, k1, k2]) rfl ⟨_, rfl, by rw [← er_wait a c]; exact JQ.mono HFN.out.1 (by omega), HFN.out.2⟩
end Go.Proofs.YtpmnhdgajkickaaGreatDoor
