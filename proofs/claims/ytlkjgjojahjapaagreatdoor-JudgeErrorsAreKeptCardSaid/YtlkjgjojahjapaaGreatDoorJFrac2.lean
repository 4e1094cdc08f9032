/- Package judge: fractions in memory: plus, compare. Printed by gen_jfrac2.py. -/
import Derived.Test.YtlkjgjojahjapaaGreatDoorG15
namespace Go.Proofs.YtlkjgjojahjapaaGreatDoor
open Go Go.RowKit Go.Proofs


set_option maxHeartbeats 8000000 in
set_option maxRecDepth 100000 in
theorem jPlus_any (n : Nat) (u v : Value) (ba bb : Bool) (xa ya xb yb : Nat) (w : World) (hn : n ≤ 400000) (ha : JF w u ba xa ya) (hb : JF w v bb xb yb) (hx1 : xa < W64 ^ n) (hy1 : ya < W64 ^ n) (hx2 : xb < W64 ^ n) (hy2 : yb < W64 ^ n) :
    Calls Tryz.prog 116 #[u, v] w (JFPost (plB ba xa ya bb xb yb) (plX ba xa ya bb xb yb) (ya * yb) w) := by
  obtain ⟨A1, c1, l1, A2, c2, l2, rfl, ha1, ha2⟩ := ha
  obtain ⟨A3, c3, l3, A4, c4, l4, rfl, hb1, hb2⟩ := hb
  have la1 := ha1.len hx1
  have la2 := ha2.len hy1
  have lb1 := hb1.len hx2
  have lb2 := hb2.len hy2
  obtain ⟨W0, hW0⟩ : ∃ W0, W0 = ((w.alloc (.cells #[.bool ba, .slice A1 l1.length c1, .slice A2 l2.length c2] 71)).alloc (.cells #[.bool bb, .slice A3 l3.length c3, .slice A4 l4.length c4] 71)).alloc (.cells #[.bool false, .slice none 0 0, .slice none 0 0] 71) := ⟨_, rfl⟩
  have HST0 := Lib.hid (show St w W0 [(w.heap.size, .cells #[.bool ba, .slice A1 l1.length c1, .slice A2 l2.length c2] 71 (0, 0)), (w.heap.size + 1, .cells #[.bool bb, .slice A3 l3.length c3, .slice A4 l4.length c4] 71 (0, 0)), (w.heap.size + 1 + 1, .cells #[.bool false, .slice none 0 0, .slice none 0 0] 71 (0, 0))] by rw [hW0]; exact (((St.start w).alloc _ _ rfl).alloc _ _ (by simp)).alloc _ _ (by simp))
  have hs0 : W0.heap.size = w.heap.size + 3 := by rw [hW0]; simp
  have HX0 := Lib.hid (show JBox W0 (w.heap.size + 1 + 1) from HST0.out.at 2 rfl)
  have HA1 := Lib.hid (ha1.on HST0.out.below)
  have HA2 := Lib.hid (ha2.on HST0.out.below)
  have HA3 := Lib.hid (hb1.on HST0.out.below)
  have HA4 := Lib.hid (hb2.on HST0.out.below)
  have HM1 := Lib.hid (fun W (hb : Below W0.heap.size W0 W) => natMul_any A1 A4 c1 c4 l1 l4 _ _ W (HA1.out.on hb) (HA4.out.on hb) (by omega) (by omega))
  have HM2 := Lib.hid (fun W (hb : Below W0.heap.size W0 W) => natMul_any A3 A2 c3 c2 l3 l2 _ _ W (HA3.out.on hb) (HA2.out.on hb) (by omega) (by omega))
  have HM3 := Lib.hid (fun W (hb : Below W0.heap.size W0 W) => natMul_any A2 A4 c2 c4 l2 l4 _ _ W (HA2.out.on hb) (HA4.out.on hb) (by omega) (by omega))
  have hz1 : xa * yb < W64 ^ (n + n) := by rw [Nat.pow_add]; exact Nat.mul_lt_mul'' hx1 hy2
  have hz2 : xb * ya < W64 ^ (n + n) := by rw [Nat.pow_add]; exact Nat.mul_lt_mul'' hx2 hy1
  unfold plB plX
  obtain ⟨X, hX⟩ : ∃ X, X = xa * yb := ⟨_, rfl⟩
  obtain ⟨Y, hY⟩ : ∃ Y, Y = xb * ya := ⟨_, rfl⟩
  obtain ⟨D, hD⟩ : ∃ D, D = ya * yb := ⟨_, rfl⟩
  rw [← hX] at HM1 hz1 ⊢
  rw [← hY] at HM2 hz2 ⊢
  rw [← hD] at HM3 ⊢
  obtain ⟨PB, hPB⟩ : ∃ PB, PB = (if ba = bb then ba else if Y ≤ X then ba else bb) := ⟨_, rfl⟩
  obtain ⟨PX, hPX⟩ : ∃ PX, PX = (if ba = bb then X + Y else if Y ≤ X then X - Y else Y - X) := ⟨_, rfl⟩
  rw [← hPB, ← hPX]
  have HPB := Lib.hid hPB
  have HPX := Lib.hid hPX
  clear ha1 ha2 hb1 hb2 hx1 hx2 hy1 hy2 hX hY hD hPB hPX
  go_enter Tryz.func116, Tryz.ntmps116
  go_wp2_with fail
  rw [← hW0]
  clear hW0
  have HB := Lib.hid (Below.refl W0.heap.size W0)
  have HKS := Lib.hid (show ∀ X, Below W0.heap.size W0 X → (fun X => Below W0.heap.size W0 X ∧ X.cell? ⟨w.heap.size, 0, none⟩ = some (.bool ba) ∧ X.cell? ⟨w.heap.size, 1, none⟩ = some (.slice A1 l1.length c1) ∧ X.cell? ⟨w.heap.size, 2, none⟩ = some (.slice A2 l2.length c2) ∧ X.cell? ⟨w.heap.size + 1, 0, none⟩ = some (.bool bb) ∧ X.cell? ⟨w.heap.size + 1, 1, none⟩ = some (.slice A3 l3.length c3) ∧ X.cell? ⟨w.heap.size + 1, 2, none⟩ = some (.slice A4 l4.length c4)) X from fun X hX => ⟨hX, (HST0.out.call (below_next HB.out hX)).cell 0 0 rfl rfl, (HST0.out.call (below_next HB.out hX)).cell 0 1 rfl rfl, (HST0.out.call (below_next HB.out hX)).cell 0 2 rfl rfl, (HST0.out.call (below_next HB.out hX)).cell 1 0 rfl rfl, (HST0.out.call (below_next HB.out hX)).cell 1 1 rfl rfl, (HST0.out.call (below_next HB.out hX)).cell 1 2 rfl rfl⟩)
  obtain ⟨_, f0, f1, f2, f3, f4, f5⟩ := HKS.out W0 (Below.refl _ W0)
  go_cut [5, 6] from 18 (fun v5 v6 wx => ∃ A5 c5 l5 A6 c6 l6, v5 = .slice A5 (l5 : List Nat).length c5 ∧ v6 = .slice A6 (l6 : List Nat).length c6 ∧ NatR wx A5 c5 l5 X ∧ NatR wx A6 c6 l6 Y ∧ Below W0.heap.size W0 wx)
  case first =>
    go_region_held3 (fun X => Below W0.heap.size W0 X ∧ X.cell? ⟨w.heap.size, 0, none⟩ = some (.bool ba) ∧ X.cell? ⟨w.heap.size, 1, none⟩ = some (.slice A1 l1.length c1) ∧ X.cell? ⟨w.heap.size, 2, none⟩ = some (.slice A2 l2.length c2) ∧ X.cell? ⟨w.heap.size + 1, 0, none⟩ = some (.bool bb) ∧ X.cell? ⟨w.heap.size + 1, 1, none⟩ = some (.slice A3 l3.length c3) ∧ X.cell? ⟨w.heap.size + 1, 2, none⟩ = some (.slice A4 l4.length c4))
      (first
        | exact HKS.out _ (Below.refl _ W0).drew
        | (go_split_ands; refine HKS.out _ (below_next ?_ hb5); assumption)
        | (go_split_ands; refine HKS.out _ (below_next ?_ hb6); assumption))
      (first
        | (go_at_call 42; (with_reducible refine (HM1.out _ (by go_split_ands; assumption)).mono ?_); rintro e w5 ⟨A5, c5, l5, rfl, hn5, hb5⟩)
        | (go_at_call 42; (with_reducible refine (HM2.out _ (by go_split_ands; assumption)).mono ?_); rintro e w6 ⟨A6, c6, l6, rfl, hn6, hb6⟩))
    all_goals go_wp2_with fail
    all_goals go_meet
    all_goals exact ⟨A5, c5, l5, A6, c6, l6, rfl, rfl, by first | exact hn5.on hb6 | exact hn5, by first | exact hn6 | exact hn6.on hb5, by go_split_ands; assumption⟩
  case rest =>
    obtain ⟨A5, c5, l5, A6, c6, l6, rfl, rfl, hn5, hn6, hb6⟩ := hcut
    have HB6 := Lib.hid hb6
    have hl5 : l5.length ≤ n + n := hn5.len hz1
    have hl6 : l6.length ≤ n + n := hn6.len hz2
    have HX5 := Lib.hid hn5
    have HX6 := Lib.hid hn6
    clear f0 f1 f2 f3 f4 f5 hn5 hn6 hb6 hz1 hz2
    obtain ⟨_, f0, f1, f2, f3, f4, f5⟩ := HKS.out wc HB6.out
    go_wp2_with fail
    (with_reducible refine (HM3.out _ HB6.out).mono ?_)
    rintro e w7 ⟨A7, c7, l7, rfl, hn7, hb7⟩
    have HB' := Lib.hid (below_next HB6.out hb7)
    have HX5' := Lib.hid (HX5.out.on hb7)
    have HX6' := Lib.hid (HX6.out.on hb7)
    have HX7n := Lib.hid hn7
    clear HB HB6 HX5 HX6 hn7 hb7 f0 f1 f2 f3 f4 f5 HM1 HM2 HM3
    have HB := HB'
    have HX5 := HX5'
    have HX6 := HX6'
    clear HB' HX5' HX6'
    have HX7 := Lib.hid (HX0.out.on HB.out)
    have HKS0 := HKS
    clear HKS
    have HKS := Lib.hid (show ∀ X, Below w7.heap.size w7 X → (fun X => Below w7.heap.size w7 X ∧ X.cell? ⟨w.heap.size, 0, none⟩ = some (.bool ba) ∧ X.cell? ⟨w.heap.size, 1, none⟩ = some (.slice A1 l1.length c1) ∧ X.cell? ⟨w.heap.size, 2, none⟩ = some (.slice A2 l2.length c2) ∧ X.cell? ⟨w.heap.size + 1, 0, none⟩ = some (.bool bb) ∧ X.cell? ⟨w.heap.size + 1, 1, none⟩ = some (.slice A3 l3.length c3) ∧ X.cell? ⟨w.heap.size + 1, 2, none⟩ = some (.slice A4 l4.length c4)) X from fun X hX => ⟨hX, (HST0.out.call (below_next HB.out hX)).cell 0 0 rfl rfl, (HST0.out.call (below_next HB.out hX)).cell 0 1 rfl rfl, (HST0.out.call (below_next HB.out hX)).cell 0 2 rfl rfl, (HST0.out.call (below_next HB.out hX)).cell 1 0 rfl rfl, (HST0.out.call (below_next HB.out hX)).cell 1 1 rfl rfl, (HST0.out.call (below_next HB.out hX)).cell 1 2 rfl rfl⟩)
    obtain ⟨_, f0, f1, f2, f3, f4, f5⟩ := HKS.out w7 (Below.refl _ w7)
    have hge : Y ≤ X ∨ ¬ Y ≤ X := by omega
    cases ba <;> cases bb
    · skip
      obtain rfl : PB = false := by rw [HPB.out]; rfl
      obtain rfl : PX = X + Y := by rw [HPX.out]; rfl
      have HOP := Lib.hid (fun W (hb : Below w7.heap.size w7 W) => natAdd_any A5 A6 c5 c6 l5 l6 X Y W (HX5.out.on hb) (HX6.out.on hb) (by omega) (by omega))
      clear hge
      go_wp2_with fail
      clear f0 f1 f2 f3 f4 f5
      refine wp_region_last (init := #[_, _, _, _, _, _, _]) (last := _) rfl (by kernel_rfl) (by kernel_rfl) (by kernel_rfl) ?_
      show wpAny _ _ _ _ 7 (Array.replicate 7 false) _ _
      refine wpAny_of_held (S := (fun X => Below w7.heap.size w7 X ∧ X.cell? ⟨w.heap.size, 0, none⟩ = some (.bool false) ∧ X.cell? ⟨w.heap.size, 1, none⟩ = some (.slice A1 l1.length c1) ∧ X.cell? ⟨w.heap.size, 2, none⟩ = some (.slice A2 l2.length c2) ∧ X.cell? ⟨w.heap.size + 1, 0, none⟩ = some (.bool false) ∧ X.cell? ⟨w.heap.size + 1, 1, none⟩ = some (.slice A3 l3.length c3) ∧ X.cell? ⟨w.heap.size + 1, 2, none⟩ = some (.slice A4 l4.length c4))) _ _ _ _ ?_
      have HS0 := HKS.out _ (Below.refl _ w7).drew
      refine wpAnyH_take (i := 0) (v := ?_) rfl (by kernel_rfl) (by kernel_rfl) (by kernel_rfl) (fun _ _ _ h => h) (Or.inl ⟨by rfl, ?_⟩) HS0 ?_
      rotate_left
      · intro W hW; (try dsimp only at hW); go_simp; try (with_reducible rfl)
      (try simp only [List.getElem_toArray, List.getElem_cons_zero, Act.put, List.setIfInBounds_toArray, List.set_cons_zero, List.set_cons_succ])
      refine wpAnyH_take (i := 1) (v := ?_) rfl (by kernel_rfl) (by kernel_rfl) (by kernel_rfl) (fun _ _ _ h => h) (Or.inl ⟨by rfl, ?_⟩) HS0 ?_
      rotate_left
      · intro W hW; (try dsimp only at hW); go_simp; try (with_reducible rfl)
      (try simp only [List.getElem_toArray, List.getElem_cons_succ, List.getElem_cons_zero, Act.put, List.setIfInBounds_toArray, List.set_cons_zero, List.set_cons_succ])
      refine wpAnyH_take (i := 2) (v := ?_) rfl (by kernel_rfl) (by kernel_rfl) (by kernel_rfl) (fun _ _ _ h => h) (Or.inl ⟨by rfl, ?_⟩) HS0 ?_
      rotate_left
      · intro W hW; (try dsimp only at hW); go_simp; try (with_reducible rfl)
      (try simp only [List.getElem_toArray, List.getElem_cons_succ, List.getElem_cons_zero, Act.put, List.setIfInBounds_toArray, List.set_cons_zero, List.set_cons_succ])
      refine wpAnyH_take (i := 3) (v := ?_) rfl (by kernel_rfl) (by kernel_rfl) (by kernel_rfl) (fun _ _ _ h => h) (Or.inl ⟨by rfl, ?_⟩) HS0 ?_
      rotate_left
      · intro W hW; (try dsimp only at hW); go_simp; try (with_reducible rfl)
      (try simp only [List.getElem_toArray, List.getElem_cons_succ, List.getElem_cons_zero, Act.put, List.setIfInBounds_toArray, List.set_cons_zero, List.set_cons_succ])
      refine wpAnyH_take (i := 5) (v := ?_) rfl (by kernel_rfl) (by kernel_rfl) (by kernel_rfl) (fun _ _ _ h => h) (Or.inl ⟨by rfl, ?_⟩) HS0 ?_
      rotate_left
      · intro W hW; (try dsimp only at hW); go_simp; try (with_reducible rfl)
      (try simp only [List.getElem_toArray, List.getElem_cons_succ, List.getElem_cons_zero, Act.put, List.setIfInBounds_toArray, List.set_cons_zero, List.set_cons_succ])
      refine run_one (i := 4) (by kernel_rfl) rfl rfl ?_
      intro K hK
      go_simp
      refine (HOP.out _ HS0.1).mono ?_
      rintro e w8 ⟨A8, c8, l8, rfl, hn8, hb8⟩
      refine hK.out _ _ (HKS.out _ (below_next HS0.1 hb8)) ?_
      clear hK K
      have HSP := HS0
      clear HS0
      intro HS0
      refine wpAnyH_take (i := 6) (v := ?_) rfl (by kernel_rfl) (by kernel_rfl) (by kernel_rfl) (fun _ _ _ h => h) (Or.inl ⟨by rfl, ?_⟩) HS0 ?_
      rotate_left
      · intro W hW; (try dsimp only at hW); go_simp; try (with_reducible rfl)
      (try simp only [List.getElem_toArray, List.getElem_cons_succ, List.getElem_cons_zero, Act.put, List.setIfInBounds_toArray, List.set_cons_zero, List.set_cons_succ])
      refine wpAnyH_done (by kernel_rfl) ?_ _
      simp only [LastQ]
      have HF := Lib.hid (fun W (hf : Fr (fun i => i = w.heap.size + 1 + 1) w8 W) => jf_ret (HX7.out.on HS0.1) (jf_mk (b := false) hn8 (HX7n.out.on HS0.1)) (below_next HST0.out.below (below_next HB.out HS0.1)) (by omega) hf)
      obtain ⟨k0, k1, k2, z0, z1, z2, hlt⟩ := (HX7.out.on HS0.1).facts
      clear HS0 hb8 hn8
      go_simp
      go_wp2
      refine bodyPost_ret (v := .agg #[.bool false, .slice A8 l8.length c8, .slice A7 l7.length c7]) (by simp [results, Tryz.results116, go_sem, k0, k1, k2]) rfl ⟨_, rfl, HF.out _ (fr3 _ _ _)⟩
    · skip
      rcases hge with hge | hge
      · skip
        obtain rfl : PB = false := by rw [HPB.out, if_neg (by decide), if_pos hge]
        obtain rfl : PX = X - Y := by rw [HPX.out, if_neg (by decide), if_pos hge]
        have HC := Lib.hid (natCmp_any A5 A6 c5 c6 l5 l6 X Y w7 HX5.out HX6.out (by omega) (by omega))
        obtain ⟨cv, hcv⟩ : ∃ cv, cv = cmpN X Y := ⟨_, rfl⟩
        rw [← hcv] at HC
        have tc : decide (0 ≤ cv) = true := by rw [hcv]; unfold cmpN; split <;> (try split) <;> simp <;> omega
        have HOP := Lib.hid (fun W (hb : Below w7.heap.size w7 W) => natSub_any A5 A6 c5 c6 l5 l6 X Y W (HX5.out.on hb) (HX6.out.on hb) (by omega) (by omega))
        clear hge hcv
        go_wp2_with fail
        (with_reducible refine HC.out.mono ?_)
        rintro e wC ⟨rfl, qq, hqq⟩
        have hbC : Below w7.heap.size w7 wC := by rw [hqq]; exact below_drewN (Below.refl _ w7) qq
        clear hqq
        have HOP2 := Lib.hid (fun W (hb : Below wC.heap.size wC W) => HOP.out W (below_next hbC hb))
        have HX7' := Lib.hid (HX7.out.on hbC)
        have HX7n' := Lib.hid (HX7n.out.on hbC)
        have HB' := Lib.hid (below_next HB.out hbC)
        clear HX7 HX7n HB HKS f0 f1 f2 f3 f4 f5 HOP hbC HX5 HX6 HC
        have HX7 := HX7'
        have HX7n := HX7n'
        have HB := HB'
        clear HX7' HX7n' HB'
        have HKS := Lib.hid (show ∀ X, Below wC.heap.size wC X → (fun X => Below wC.heap.size wC X ∧ X.cell? ⟨w.heap.size, 0, none⟩ = some (.bool false) ∧ X.cell? ⟨w.heap.size, 1, none⟩ = some (.slice A1 l1.length c1) ∧ X.cell? ⟨w.heap.size, 2, none⟩ = some (.slice A2 l2.length c2) ∧ X.cell? ⟨w.heap.size + 1, 0, none⟩ = some (.bool true) ∧ X.cell? ⟨w.heap.size + 1, 1, none⟩ = some (.slice A3 l3.length c3) ∧ X.cell? ⟨w.heap.size + 1, 2, none⟩ = some (.slice A4 l4.length c4)) X from fun X hX => ⟨hX, (HST0.out.call (below_next HB.out hX)).cell 0 0 rfl rfl, (HST0.out.call (below_next HB.out hX)).cell 0 1 rfl rfl, (HST0.out.call (below_next HB.out hX)).cell 0 2 rfl rfl, (HST0.out.call (below_next HB.out hX)).cell 1 0 rfl rfl, (HST0.out.call (below_next HB.out hX)).cell 1 1 rfl rfl, (HST0.out.call (below_next HB.out hX)).cell 1 2 rfl rfl⟩)
        obtain ⟨_, f0, f1, f2, f3, f4, f5⟩ := HKS.out wC (Below.refl _ wC)
        go_wp2_with fail
        clear f0 f1 f2 f3 f4 f5
        refine wp_region_last (init := #[_, _, _, _, _, _, _]) (last := _) rfl (by kernel_rfl) (by kernel_rfl) (by kernel_rfl) ?_
        show wpAny _ _ _ _ 7 (Array.replicate 7 false) _ _
        refine wpAny_of_held (S := (fun X => Below wC.heap.size wC X ∧ X.cell? ⟨w.heap.size, 0, none⟩ = some (.bool false) ∧ X.cell? ⟨w.heap.size, 1, none⟩ = some (.slice A1 l1.length c1) ∧ X.cell? ⟨w.heap.size, 2, none⟩ = some (.slice A2 l2.length c2) ∧ X.cell? ⟨w.heap.size + 1, 0, none⟩ = some (.bool true) ∧ X.cell? ⟨w.heap.size + 1, 1, none⟩ = some (.slice A3 l3.length c3) ∧ X.cell? ⟨w.heap.size + 1, 2, none⟩ = some (.slice A4 l4.length c4))) _ _ _ _ ?_
        have HS0 := HKS.out _ (Below.refl _ wC).drew
        refine wpAnyH_take (i := 0) (v := ?_) rfl (by kernel_rfl) (by kernel_rfl) (by kernel_rfl) (fun _ _ _ h => h) (Or.inl ⟨by rfl, ?_⟩) HS0 ?_
        rotate_left
        · intro W hW; (try dsimp only at hW); go_simp; try (with_reducible rfl)
        (try simp only [List.getElem_toArray, List.getElem_cons_zero, Act.put, List.setIfInBounds_toArray, List.set_cons_zero, List.set_cons_succ])
        refine wpAnyH_take (i := 1) (v := ?_) rfl (by kernel_rfl) (by kernel_rfl) (by kernel_rfl) (fun _ _ _ h => h) (Or.inl ⟨by rfl, ?_⟩) HS0 ?_
        rotate_left
        · intro W hW; (try dsimp only at hW); go_simp; try (with_reducible rfl)
        (try simp only [List.getElem_toArray, List.getElem_cons_succ, List.getElem_cons_zero, Act.put, List.setIfInBounds_toArray, List.set_cons_zero, List.set_cons_succ])
        refine wpAnyH_take (i := 2) (v := ?_) rfl (by kernel_rfl) (by kernel_rfl) (by kernel_rfl) (fun _ _ _ h => h) (Or.inl ⟨by rfl, ?_⟩) HS0 ?_
        rotate_left
        · intro W hW; (try dsimp only at hW); go_simp; try (with_reducible rfl)
        (try simp only [List.getElem_toArray, List.getElem_cons_succ, List.getElem_cons_zero, Act.put, List.setIfInBounds_toArray, List.set_cons_zero, List.set_cons_succ])
        refine wpAnyH_take (i := 3) (v := ?_) rfl (by kernel_rfl) (by kernel_rfl) (by kernel_rfl) (fun _ _ _ h => h) (Or.inl ⟨by rfl, ?_⟩) HS0 ?_
        rotate_left
        · intro W hW; (try dsimp only at hW); go_simp; try (with_reducible rfl)
        (try simp only [List.getElem_toArray, List.getElem_cons_succ, List.getElem_cons_zero, Act.put, List.setIfInBounds_toArray, List.set_cons_zero, List.set_cons_succ])
        refine wpAnyH_take (i := 5) (v := ?_) rfl (by kernel_rfl) (by kernel_rfl) (by kernel_rfl) (fun _ _ _ h => h) (Or.inl ⟨by rfl, ?_⟩) HS0 ?_
        rotate_left
        · intro W hW; (try dsimp only at hW); go_simp; try (with_reducible rfl)
        (try simp only [List.getElem_toArray, List.getElem_cons_succ, List.getElem_cons_zero, Act.put, List.setIfInBounds_toArray, List.set_cons_zero, List.set_cons_succ])
        refine run_one (i := 4) (by kernel_rfl) rfl rfl ?_
        intro K hK
        go_simp
        refine (HOP2.out _ HS0.1).mono ?_
        rintro e w8 ⟨A8, c8, l8, rfl, hn8, hb8⟩
        refine hK.out _ _ (HKS.out _ (below_next HS0.1 hb8)) ?_
        clear hK K
        have HSP := HS0
        clear HS0
        intro HS0
        refine wpAnyH_take (i := 6) (v := ?_) rfl (by kernel_rfl) (by kernel_rfl) (by kernel_rfl) (fun _ _ _ h => h) (Or.inl ⟨by rfl, ?_⟩) HS0 ?_
        rotate_left
        · intro W hW; (try dsimp only at hW); go_simp; try (with_reducible rfl)
        (try simp only [List.getElem_toArray, List.getElem_cons_succ, List.getElem_cons_zero, Act.put, List.setIfInBounds_toArray, List.set_cons_zero, List.set_cons_succ])
        refine wpAnyH_done (by kernel_rfl) ?_ _
        simp only [LastQ]
        have HF := Lib.hid (fun W (hf : Fr (fun i => i = w.heap.size + 1 + 1) w8 W) => jf_ret (HX7.out.on HS0.1) (jf_mk (b := false) hn8 (HX7n.out.on HS0.1)) (below_next HST0.out.below (below_next HB.out HS0.1)) (by omega) hf)
        obtain ⟨k0, k1, k2, z0, z1, z2, hlt⟩ := (HX7.out.on HS0.1).facts
        clear HS0 hb8 hn8
        go_simp
        go_wp2
        refine bodyPost_ret (v := .agg #[.bool false, .slice A8 l8.length c8, .slice A7 l7.length c7]) (by simp [results, Tryz.results116, go_sem, k0, k1, k2]) rfl ⟨_, rfl, HF.out _ (fr3 _ _ _)⟩
      · skip
        obtain rfl : PB = true := by rw [HPB.out, if_neg (by decide), if_neg hge]
        obtain rfl : PX = Y - X := by rw [HPX.out, if_neg (by decide), if_neg hge]
        have HC := Lib.hid (natCmp_any A5 A6 c5 c6 l5 l6 X Y w7 HX5.out HX6.out (by omega) (by omega))
        obtain ⟨cv, hcv⟩ : ∃ cv, cv = cmpN X Y := ⟨_, rfl⟩
        rw [← hcv] at HC
        have tc : decide (0 ≤ cv) = false := by rw [hcv]; unfold cmpN; split <;> (try split) <;> simp <;> omega
        have HOP := Lib.hid (fun W (hb : Below w7.heap.size w7 W) => natSub_any A6 A5 c6 c5 l6 l5 Y X W (HX6.out.on hb) (HX5.out.on hb) (by omega) (by omega))
        clear hge hcv
        go_wp2_with fail
        (with_reducible refine HC.out.mono ?_)
        rintro e wC ⟨rfl, qq, hqq⟩
        have hbC : Below w7.heap.size w7 wC := by rw [hqq]; exact below_drewN (Below.refl _ w7) qq
        clear hqq
        have HOP2 := Lib.hid (fun W (hb : Below wC.heap.size wC W) => HOP.out W (below_next hbC hb))
        have HX7' := Lib.hid (HX7.out.on hbC)
        have HX7n' := Lib.hid (HX7n.out.on hbC)
        have HB' := Lib.hid (below_next HB.out hbC)
        clear HX7 HX7n HB HKS f0 f1 f2 f3 f4 f5 HOP hbC HX5 HX6 HC
        have HX7 := HX7'
        have HX7n := HX7n'
        have HB := HB'
        clear HX7' HX7n' HB'
        have HKS := Lib.hid (show ∀ X, Below wC.heap.size wC X → (fun X => Below wC.heap.size wC X ∧ X.cell? ⟨w.heap.size, 0, none⟩ = some (.bool false) ∧ X.cell? ⟨w.heap.size, 1, none⟩ = some (.slice A1 l1.length c1) ∧ X.cell? ⟨w.heap.size, 2, none⟩ = some (.slice A2 l2.length c2) ∧ X.cell? ⟨w.heap.size + 1, 0, none⟩ = some (.bool true) ∧ X.cell? ⟨w.heap.size + 1, 1, none⟩ = some (.slice A3 l3.length c3) ∧ X.cell? ⟨w.heap.size + 1, 2, none⟩ = some (.slice A4 l4.length c4)) X from fun X hX => ⟨hX, (HST0.out.call (below_next HB.out hX)).cell 0 0 rfl rfl, (HST0.out.call (below_next HB.out hX)).cell 0 1 rfl rfl, (HST0.out.call (below_next HB.out hX)).cell 0 2 rfl rfl, (HST0.out.call (below_next HB.out hX)).cell 1 0 rfl rfl, (HST0.out.call (below_next HB.out hX)).cell 1 1 rfl rfl, (HST0.out.call (below_next HB.out hX)).cell 1 2 rfl rfl⟩)
        obtain ⟨_, f0, f1, f2, f3, f4, f5⟩ := HKS.out wC (Below.refl _ wC)
        go_wp2_with fail
        clear f0 f1 f2 f3 f4 f5
        refine wp_region_last (init := #[_, _, _, _, _, _, _]) (last := _) rfl (by kernel_rfl) (by kernel_rfl) (by kernel_rfl) ?_
        show wpAny _ _ _ _ 7 (Array.replicate 7 false) _ _
        refine wpAny_of_held (S := (fun X => Below wC.heap.size wC X ∧ X.cell? ⟨w.heap.size, 0, none⟩ = some (.bool false) ∧ X.cell? ⟨w.heap.size, 1, none⟩ = some (.slice A1 l1.length c1) ∧ X.cell? ⟨w.heap.size, 2, none⟩ = some (.slice A2 l2.length c2) ∧ X.cell? ⟨w.heap.size + 1, 0, none⟩ = some (.bool true) ∧ X.cell? ⟨w.heap.size + 1, 1, none⟩ = some (.slice A3 l3.length c3) ∧ X.cell? ⟨w.heap.size + 1, 2, none⟩ = some (.slice A4 l4.length c4))) _ _ _ _ ?_
        have HS0 := HKS.out _ (Below.refl _ wC).drew
        refine wpAnyH_take (i := 0) (v := ?_) rfl (by kernel_rfl) (by kernel_rfl) (by kernel_rfl) (fun _ _ _ h => h) (Or.inl ⟨by rfl, ?_⟩) HS0 ?_
        rotate_left
        · intro W hW; (try dsimp only at hW); go_simp; try (with_reducible rfl)
        (try simp only [List.getElem_toArray, List.getElem_cons_zero, Act.put, List.setIfInBounds_toArray, List.set_cons_zero, List.set_cons_succ])
        refine wpAnyH_take (i := 1) (v := ?_) rfl (by kernel_rfl) (by kernel_rfl) (by kernel_rfl) (fun _ _ _ h => h) (Or.inl ⟨by rfl, ?_⟩) HS0 ?_
        rotate_left
        · intro W hW; (try dsimp only at hW); go_simp; try (with_reducible rfl)
        (try simp only [List.getElem_toArray, List.getElem_cons_succ, List.getElem_cons_zero, Act.put, List.setIfInBounds_toArray, List.set_cons_zero, List.set_cons_succ])
        refine wpAnyH_take (i := 2) (v := ?_) rfl (by kernel_rfl) (by kernel_rfl) (by kernel_rfl) (fun _ _ _ h => h) (Or.inl ⟨by rfl, ?_⟩) HS0 ?_
        rotate_left
        · intro W hW; (try dsimp only at hW); go_simp; try (with_reducible rfl)
        (try simp only [List.getElem_toArray, List.getElem_cons_succ, List.getElem_cons_zero, Act.put, List.setIfInBounds_toArray, List.set_cons_zero, List.set_cons_succ])
        refine wpAnyH_take (i := 3) (v := ?_) rfl (by kernel_rfl) (by kernel_rfl) (by kernel_rfl) (fun _ _ _ h => h) (Or.inl ⟨by rfl, ?_⟩) HS0 ?_
        rotate_left
        · intro W hW; (try dsimp only at hW); go_simp; try (with_reducible rfl)
        (try simp only [List.getElem_toArray, List.getElem_cons_succ, List.getElem_cons_zero, Act.put, List.setIfInBounds_toArray, List.set_cons_zero, List.set_cons_succ])
        refine wpAnyH_take (i := 5) (v := ?_) rfl (by kernel_rfl) (by kernel_rfl) (by kernel_rfl) (fun _ _ _ h => h) (Or.inl ⟨by rfl, ?_⟩) HS0 ?_
        rotate_left
        · intro W hW; (try dsimp only at hW); go_simp; try (with_reducible rfl)
        (try simp only [List.getElem_toArray, List.getElem_cons_succ, List.getElem_cons_zero, Act.put, List.setIfInBounds_toArray, List.set_cons_zero, List.set_cons_succ])
        refine run_one (i := 4) (by kernel_rfl) rfl rfl ?_
        intro K hK
        go_simp
        refine (HOP2.out _ HS0.1).mono ?_
        rintro e w8 ⟨A8, c8, l8, rfl, hn8, hb8⟩
        refine hK.out _ _ (HKS.out _ (below_next HS0.1 hb8)) ?_
        clear hK K
        have HSP := HS0
        clear HS0
        intro HS0
        refine wpAnyH_take (i := 6) (v := ?_) rfl (by kernel_rfl) (by kernel_rfl) (by kernel_rfl) (fun _ _ _ h => h) (Or.inl ⟨by rfl, ?_⟩) HS0 ?_
        rotate_left
        · intro W hW; (try dsimp only at hW); go_simp; try (with_reducible rfl)
        (try simp only [List.getElem_toArray, List.getElem_cons_succ, List.getElem_cons_zero, Act.put, List.setIfInBounds_toArray, List.set_cons_zero, List.set_cons_succ])
        refine wpAnyH_done (by kernel_rfl) ?_ _
        simp only [LastQ]
        have HF := Lib.hid (fun W (hf : Fr (fun i => i = w.heap.size + 1 + 1) w8 W) => jf_ret (HX7.out.on HS0.1) (jf_mk (b := true) hn8 (HX7n.out.on HS0.1)) (below_next HST0.out.below (below_next HB.out HS0.1)) (by omega) hf)
        obtain ⟨k0, k1, k2, z0, z1, z2, hlt⟩ := (HX7.out.on HS0.1).facts
        clear HS0 hb8 hn8
        go_simp
        go_wp2
        refine bodyPost_ret (v := .agg #[.bool true, .slice A8 l8.length c8, .slice A7 l7.length c7]) (by simp [results, Tryz.results116, go_sem, k0, k1, k2]) rfl ⟨_, rfl, HF.out _ (fr3 _ _ _)⟩
    · skip
      rcases hge with hge | hge
      · skip
        obtain rfl : PB = true := by rw [HPB.out, if_neg (by decide), if_pos hge]
        obtain rfl : PX = X - Y := by rw [HPX.out, if_neg (by decide), if_pos hge]
        have HC := Lib.hid (natCmp_any A5 A6 c5 c6 l5 l6 X Y w7 HX5.out HX6.out (by omega) (by omega))
        obtain ⟨cv, hcv⟩ : ∃ cv, cv = cmpN X Y := ⟨_, rfl⟩
        rw [← hcv] at HC
        have tc : decide (0 ≤ cv) = true := by rw [hcv]; unfold cmpN; split <;> (try split) <;> simp <;> omega
        have HOP := Lib.hid (fun W (hb : Below w7.heap.size w7 W) => natSub_any A5 A6 c5 c6 l5 l6 X Y W (HX5.out.on hb) (HX6.out.on hb) (by omega) (by omega))
        clear hge hcv
        go_wp2_with fail
        (with_reducible refine HC.out.mono ?_)
        rintro e wC ⟨rfl, qq, hqq⟩
        have hbC : Below w7.heap.size w7 wC := by rw [hqq]; exact below_drewN (Below.refl _ w7) qq
        clear hqq
        have HOP2 := Lib.hid (fun W (hb : Below wC.heap.size wC W) => HOP.out W (below_next hbC hb))
        have HX7' := Lib.hid (HX7.out.on hbC)
        have HX7n' := Lib.hid (HX7n.out.on hbC)
        have HB' := Lib.hid (below_next HB.out hbC)
        clear HX7 HX7n HB HKS f0 f1 f2 f3 f4 f5 HOP hbC HX5 HX6 HC
        have HX7 := HX7'
        have HX7n := HX7n'
        have HB := HB'
        clear HX7' HX7n' HB'
        have HKS := Lib.hid (show ∀ X, Below wC.heap.size wC X → (fun X => Below wC.heap.size wC X ∧ X.cell? ⟨w.heap.size, 0, none⟩ = some (.bool true) ∧ X.cell? ⟨w.heap.size, 1, none⟩ = some (.slice A1 l1.length c1) ∧ X.cell? ⟨w.heap.size, 2, none⟩ = some (.slice A2 l2.length c2) ∧ X.cell? ⟨w.heap.size + 1, 0, none⟩ = some (.bool false) ∧ X.cell? ⟨w.heap.size + 1, 1, none⟩ = some (.slice A3 l3.length c3) ∧ X.cell? ⟨w.heap.size + 1, 2, none⟩ = some (.slice A4 l4.length c4)) X from fun X hX => ⟨hX, (HST0.out.call (below_next HB.out hX)).cell 0 0 rfl rfl, (HST0.out.call (below_next HB.out hX)).cell 0 1 rfl rfl, (HST0.out.call (below_next HB.out hX)).cell 0 2 rfl rfl, (HST0.out.call (below_next HB.out hX)).cell 1 0 rfl rfl, (HST0.out.call (below_next HB.out hX)).cell 1 1 rfl rfl, (HST0.out.call (below_next HB.out hX)).cell 1 2 rfl rfl⟩)
        obtain ⟨_, f0, f1, f2, f3, f4, f5⟩ := HKS.out wC (Below.refl _ wC)
        go_wp2_with fail
        clear f0 f1 f2 f3 f4 f5
        refine wp_region_last (init := #[_, _, _, _, _, _, _]) (last := _) rfl (by kernel_rfl) (by kernel_rfl) (by kernel_rfl) ?_
        show wpAny _ _ _ _ 7 (Array.replicate 7 false) _ _
        refine wpAny_of_held (S := (fun X => Below wC.heap.size wC X ∧ X.cell? ⟨w.heap.size, 0, none⟩ = some (.bool true) ∧ X.cell? ⟨w.heap.size, 1, none⟩ = some (.slice A1 l1.length c1) ∧ X.cell? ⟨w.heap.size, 2, none⟩ = some (.slice A2 l2.length c2) ∧ X.cell? ⟨w.heap.size + 1, 0, none⟩ = some (.bool false) ∧ X.cell? ⟨w.heap.size + 1, 1, none⟩ = some (.slice A3 l3.length c3) ∧ X.cell? ⟨w.heap.size + 1, 2, none⟩ = some (.slice A4 l4.length c4))) _ _ _ _ ?_
        have HS0 := HKS.out _ (Below.refl _ wC).drew
        refine wpAnyH_take (i := 0) (v := ?_) rfl (by kernel_rfl) (by kernel_rfl) (by kernel_rfl) (fun _ _ _ h => h) (Or.inl ⟨by rfl, ?_⟩) HS0 ?_
        rotate_left
        · intro W hW; (try dsimp only at hW); go_simp; try (with_reducible rfl)
        (try simp only [List.getElem_toArray, List.getElem_cons_zero, Act.put, List.setIfInBounds_toArray, List.set_cons_zero, List.set_cons_succ])
        refine wpAnyH_take (i := 1) (v := ?_) rfl (by kernel_rfl) (by kernel_rfl) (by kernel_rfl) (fun _ _ _ h => h) (Or.inl ⟨by rfl, ?_⟩) HS0 ?_
        rotate_left
        · intro W hW; (try dsimp only at hW); go_simp; try (with_reducible rfl)
        (try simp only [List.getElem_toArray, List.getElem_cons_succ, List.getElem_cons_zero, Act.put, List.setIfInBounds_toArray, List.set_cons_zero, List.set_cons_succ])
        refine wpAnyH_take (i := 2) (v := ?_) rfl (by kernel_rfl) (by kernel_rfl) (by kernel_rfl) (fun _ _ _ h => h) (Or.inl ⟨by rfl, ?_⟩) HS0 ?_
        rotate_left
        · intro W hW; (try dsimp only at hW); go_simp; try (with_reducible rfl)
        (try simp only [List.getElem_toArray, List.getElem_cons_succ, List.getElem_cons_zero, Act.put, List.setIfInBounds_toArray, List.set_cons_zero, List.set_cons_succ])
        refine wpAnyH_take (i := 3) (v := ?_) rfl (by kernel_rfl) (by kernel_rfl) (by kernel_rfl) (fun _ _ _ h => h) (Or.inl ⟨by rfl, ?_⟩) HS0 ?_
        rotate_left
        · intro W hW; (try dsimp only at hW); go_simp; try (with_reducible rfl)
        (try simp only [List.getElem_toArray, List.getElem_cons_succ, List.getElem_cons_zero, Act.put, List.setIfInBounds_toArray, List.set_cons_zero, List.set_cons_succ])
        refine wpAnyH_take (i := 5) (v := ?_) rfl (by kernel_rfl) (by kernel_rfl) (by kernel_rfl) (fun _ _ _ h => h) (Or.inl ⟨by rfl, ?_⟩) HS0 ?_
        rotate_left
        · intro W hW; (try dsimp only at hW); go_simp; try (with_reducible rfl)
        (try simp only [List.getElem_toArray, List.getElem_cons_succ, List.getElem_cons_zero, Act.put, List.setIfInBounds_toArray, List.set_cons_zero, List.set_cons_succ])
        refine run_one (i := 4) (by kernel_rfl) rfl rfl ?_
        intro K hK
        go_simp
        refine (HOP2.out _ HS0.1).mono ?_
        rintro e w8 ⟨A8, c8, l8, rfl, hn8, hb8⟩
        refine hK.out _ _ (HKS.out _ (below_next HS0.1 hb8)) ?_
        clear hK K
        have HSP := HS0
        clear HS0
        intro HS0
        refine wpAnyH_take (i := 6) (v := ?_) rfl (by kernel_rfl) (by kernel_rfl) (by kernel_rfl) (fun _ _ _ h => h) (Or.inl ⟨by rfl, ?_⟩) HS0 ?_
        rotate_left
        · intro W hW; (try dsimp only at hW); go_simp; try (with_reducible rfl)
        (try simp only [List.getElem_toArray, List.getElem_cons_succ, List.getElem_cons_zero, Act.put, List.setIfInBounds_toArray, List.set_cons_zero, List.set_cons_succ])
        refine wpAnyH_done (by kernel_rfl) ?_ _
        simp only [LastQ]
        have HF := Lib.hid (fun W (hf : Fr (fun i => i = w.heap.size + 1 + 1) w8 W) => jf_ret (HX7.out.on HS0.1) (jf_mk (b := true) hn8 (HX7n.out.on HS0.1)) (below_next HST0.out.below (below_next HB.out HS0.1)) (by omega) hf)
        obtain ⟨k0, k1, k2, z0, z1, z2, hlt⟩ := (HX7.out.on HS0.1).facts
        clear HS0 hb8 hn8
        go_simp
        go_wp2
        refine bodyPost_ret (v := .agg #[.bool true, .slice A8 l8.length c8, .slice A7 l7.length c7]) (by simp [results, Tryz.results116, go_sem, k0, k1, k2]) rfl ⟨_, rfl, HF.out _ (fr3 _ _ _)⟩
      · skip
        obtain rfl : PB = false := by rw [HPB.out, if_neg (by decide), if_neg hge]
        obtain rfl : PX = Y - X := by rw [HPX.out, if_neg (by decide), if_neg hge]
        have HC := Lib.hid (natCmp_any A5 A6 c5 c6 l5 l6 X Y w7 HX5.out HX6.out (by omega) (by omega))
        obtain ⟨cv, hcv⟩ : ∃ cv, cv = cmpN X Y := ⟨_, rfl⟩
        rw [← hcv] at HC
        have tc : decide (0 ≤ cv) = false := by rw [hcv]; unfold cmpN; split <;> (try split) <;> simp <;> omega
        have HOP := Lib.hid (fun W (hb : Below w7.heap.size w7 W) => natSub_any A6 A5 c6 c5 l6 l5 Y X W (HX6.out.on hb) (HX5.out.on hb) (by omega) (by omega))
        clear hge hcv
        go_wp2_with fail
        (with_reducible refine HC.out.mono ?_)
        rintro e wC ⟨rfl, qq, hqq⟩
        have hbC : Below w7.heap.size w7 wC := by rw [hqq]; exact below_drewN (Below.refl _ w7) qq
        clear hqq
        have HOP2 := Lib.hid (fun W (hb : Below wC.heap.size wC W) => HOP.out W (below_next hbC hb))
        have HX7' := Lib.hid (HX7.out.on hbC)
        have HX7n' := Lib.hid (HX7n.out.on hbC)
        have HB' := Lib.hid (below_next HB.out hbC)
        clear HX7 HX7n HB HKS f0 f1 f2 f3 f4 f5 HOP hbC HX5 HX6 HC
        have HX7 := HX7'
        have HX7n := HX7n'
        have HB := HB'
        clear HX7' HX7n' HB'
        have HKS := Lib.hid (show ∀ X, Below wC.heap.size wC X → (fun X => Below wC.heap.size wC X ∧ X.cell? ⟨w.heap.size, 0, none⟩ = some (.bool true) ∧ X.cell? ⟨w.heap.size, 1, none⟩ = some (.slice A1 l1.length c1) ∧ X.cell? ⟨w.heap.size, 2, none⟩ = some (.slice A2 l2.length c2) ∧ X.cell? ⟨w.heap.size + 1, 0, none⟩ = some (.bool false) ∧ X.cell? ⟨w.heap.size + 1, 1, none⟩ = some (.slice A3 l3.length c3) ∧ X.cell? ⟨w.heap.size + 1, 2, none⟩ = some (.slice A4 l4.length c4)) X from fun X hX => ⟨hX, (HST0.out.call (below_next HB.out hX)).cell 0 0 rfl rfl, (HST0.out.call (below_next HB.out hX)).cell 0 1 rfl rfl, (HST0.out.call (below_next HB.out hX)).cell 0 2 rfl rfl, (HST0.out.call (below_next HB.out hX)).cell 1 0 rfl rfl, (HST0.out.call (below_next HB.out hX)).cell 1 1 rfl rfl, (HST0.out.call (below_next HB.out hX)).cell 1 2 rfl rfl⟩)
        obtain ⟨_, f0, f1, f2, f3, f4, f5⟩ := HKS.out wC (Below.refl _ wC)
        go_wp2_with fail
        clear f0 f1 f2 f3 f4 f5
        refine wp_region_last (init := #[_, _, _, _, _, _, _]) (last := _) rfl (by kernel_rfl) (by kernel_rfl) (by kernel_rfl) ?_
        show wpAny _ _ _ _ 7 (Array.replicate 7 false) _ _
        refine wpAny_of_held (S := (fun X => Below wC.heap.size wC X ∧ X.cell? ⟨w.heap.size, 0, none⟩ = some (.bool true) ∧ X.cell? ⟨w.heap.size, 1, none⟩ = some (.slice A1 l1.length c1) ∧ X.cell? ⟨w.heap.size, 2, none⟩ = some (.slice A2 l2.length c2) ∧ X.cell? ⟨w.heap.size + 1, 0, none⟩ = some (.bool false) ∧ X.cell? ⟨w.heap.size + 1, 1, none⟩ = some (.slice A3 l3.length c3) ∧ X.cell? ⟨w.heap.size + 1, 2, none⟩ = some (.slice A4 l4.length c4))) _ _ _ _ ?_
        have HS0 := HKS.out _ (Below.refl _ wC).drew
        refine wpAnyH_take (i := 0) (v := ?_) rfl (by kernel_rfl) (by kernel_rfl) (by kernel_rfl) (fun _ _ _ h => h) (Or.inl ⟨by rfl, ?_⟩) HS0 ?_
        rotate_left
        · intro W hW; (try dsimp only at hW); go_simp; try (with_reducible rfl)
        (try simp only [List.getElem_toArray, List.getElem_cons_zero, Act.put, List.setIfInBounds_toArray, List.set_cons_zero, List.set_cons_succ])
        refine wpAnyH_take (i := 1) (v := ?_) rfl (by kernel_rfl) (by kernel_rfl) (by kernel_rfl) (fun _ _ _ h => h) (Or.inl ⟨by rfl, ?_⟩) HS0 ?_
        rotate_left
        · intro W hW; (try dsimp only at hW); go_simp; try (with_reducible rfl)
        (try simp only [List.getElem_toArray, List.getElem_cons_succ, List.getElem_cons_zero, Act.put, List.setIfInBounds_toArray, List.set_cons_zero, List.set_cons_succ])
        refine wpAnyH_take (i := 2) (v := ?_) rfl (by kernel_rfl) (by kernel_rfl) (by kernel_rfl) (fun _ _ _ h => h) (Or.inl ⟨by rfl, ?_⟩) HS0 ?_
        rotate_left
        · intro W hW; (try dsimp only at hW); go_simp; try (with_reducible rfl)
        (try simp only [List.getElem_toArray, List.getElem_cons_succ, List.getElem_cons_zero, Act.put, List.setIfInBounds_toArray, List.set_cons_zero, List.set_cons_succ])
        refine wpAnyH_take (i := 3) (v := ?_) rfl (by kernel_rfl) (by kernel_rfl) (by kernel_rfl) (fun _ _ _ h => h) (Or.inl ⟨by rfl, ?_⟩) HS0 ?_
        rotate_left
        · intro W hW; (try dsimp only at hW); go_simp; try (with_reducible rfl)
        (try simp only [List.getElem_toArray, List.getElem_cons_succ, List.getElem_cons_zero, Act.put, List.setIfInBounds_toArray, List.set_cons_zero, List.set_cons_succ])
        refine wpAnyH_take (i := 5) (v := ?_) rfl (by kernel_rfl) (by kernel_rfl) (by kernel_rfl) (fun _ _ _ h => h) (Or.inl ⟨by rfl, ?_⟩) HS0 ?_
        rotate_left
        · intro W hW; (try dsimp only at hW); go_simp; try (with_reducible rfl)
        (try simp only [List.getElem_toArray, List.getElem_cons_succ, List.getElem_cons_zero, Act.put, List.setIfInBounds_toArray, List.set_cons_zero, List.set_cons_succ])
        refine run_one (i := 4) (by kernel_rfl) rfl rfl ?_
        intro K hK
        go_simp
        refine (HOP2.out _ HS0.1).mono ?_
        rintro e w8 ⟨A8, c8, l8, rfl, hn8, hb8⟩
        refine hK.out _ _ (HKS.out _ (below_next HS0.1 hb8)) ?_
        clear hK K
        have HSP := HS0
        clear HS0
        intro HS0
        refine wpAnyH_take (i := 6) (v := ?_) rfl (by kernel_rfl) (by kernel_rfl) (by kernel_rfl) (fun _ _ _ h => h) (Or.inl ⟨by rfl, ?_⟩) HS0 ?_
        rotate_left
        · intro W hW; (try dsimp only at hW); go_simp; try (with_reducible rfl)
        (try simp only [List.getElem_toArray, List.getElem_cons_succ, List.getElem_cons_zero, Act.put, List.setIfInBounds_toArray, List.set_cons_zero, List.set_cons_succ])
        refine wpAnyH_done (by kernel_rfl) ?_ _
        simp only [LastQ]
        have HF := Lib.hid (fun W (hf : Fr (fun i => i = w.heap.size + 1 + 1) w8 W) => jf_ret (HX7.out.on HS0.1) (jf_mk (b := false) hn8 (HX7n.out.on HS0.1)) (below_next HST0.out.below (below_next HB.out HS0.1)) (by omega) hf)
        obtain ⟨k0, k1, k2, z0, z1, z2, hlt⟩ := (HX7.out.on HS0.1).facts
        clear HS0 hb8 hn8
        go_simp
        go_wp2
        refine bodyPost_ret (v := .agg #[.bool false, .slice A8 l8.length c8, .slice A7 l7.length c7]) (by simp [results, Tryz.results116, go_sem, k0, k1, k2]) rfl ⟨_, rfl, HF.out _ (fr3 _ _ _)⟩
    · skip
      obtain rfl : PB = true := by rw [HPB.out]; rfl
      obtain rfl : PX = X + Y := by rw [HPX.out]; rfl
      have HOP := Lib.hid (fun W (hb : Below w7.heap.size w7 W) => natAdd_any A5 A6 c5 c6 l5 l6 X Y W (HX5.out.on hb) (HX6.out.on hb) (by omega) (by omega))
      clear hge
      go_wp2_with fail
      clear f0 f1 f2 f3 f4 f5
      refine wp_region_last (init := #[_, _, _, _, _, _, _]) (last := _) rfl (by kernel_rfl) (by kernel_rfl) (by kernel_rfl) ?_
      show wpAny _ _ _ _ 7 (Array.replicate 7 false) _ _
      refine wpAny_of_held (S := (fun X => Below w7.heap.size w7 X ∧ X.cell? ⟨w.heap.size, 0, none⟩ = some (.bool true) ∧ X.cell? ⟨w.heap.size, 1, none⟩ = some (.slice A1 l1.length c1) ∧ X.cell? ⟨w.heap.size, 2, none⟩ = some (.slice A2 l2.length c2) ∧ X.cell? ⟨w.heap.size + 1, 0, none⟩ = some (.bool true) ∧ X.cell? ⟨w.heap.size + 1, 1, none⟩ = some (.slice A3 l3.length c3) ∧ X.cell? ⟨w.heap.size + 1, 2, none⟩ = some (.slice A4 l4.length c4))) _ _ _ _ ?_
      have HS0 := HKS.out _ (Below.refl _ w7).drew
      refine wpAnyH_take (i := 0) (v := ?_) rfl (by kernel_rfl) (by kernel_rfl) (by kernel_rfl) (fun _ _ _ h => h) (Or.inl ⟨by rfl, ?_⟩) HS0 ?_
      rotate_left
      · intro W hW; (try dsimp only at hW); go_simp; try (with_reducible rfl)
      (try simp only [List.getElem_toArray, List.getElem_cons_zero, Act.put, List.setIfInBounds_toArray, List.set_cons_zero, List.set_cons_succ])
      refine wpAnyH_take (i := 1) (v := ?_) rfl (by kernel_rfl) (by kernel_rfl) (by kernel_rfl) (fun _ _ _ h => h) (Or.inl ⟨by rfl, ?_⟩) HS0 ?_
      rotate_left
      · intro W hW; (try dsimp only at hW); go_simp; try (with_reducible rfl)
      (try simp only [List.getElem_toArray, List.getElem_cons_succ, List.getElem_cons_zero, Act.put, List.setIfInBounds_toArray, List.set_cons_zero, List.set_cons_succ])
      refine wpAnyH_take (i := 2) (v := ?_) rfl (by kernel_rfl) (by kernel_rfl) (by kernel_rfl) (fun _ _ _ h => h) (Or.inl ⟨by rfl, ?_⟩) HS0 ?_
      rotate_left
      · intro W hW; (try dsimp only at hW); go_simp; try (with_reducible rfl)
      (try simp only [List.getElem_toArray, List.getElem_cons_succ, List.getElem_cons_zero, Act.put, List.setIfInBounds_toArray, List.set_cons_zero, List.set_cons_succ])
      refine wpAnyH_take (i := 3) (v := ?_) rfl (by kernel_rfl) (by kernel_rfl) (by kernel_rfl) (fun _ _ _ h => h) (Or.inl ⟨by rfl, ?_⟩) HS0 ?_
      rotate_left
      · intro W hW; (try dsimp only at hW); go_simp; try (with_reducible rfl)
      (try simp only [List.getElem_toArray, List.getElem_cons_succ, List.getElem_cons_zero, Act.put, List.setIfInBounds_toArray, List.set_cons_zero, List.set_cons_succ])
      refine wpAnyH_take (i := 5) (v := ?_) rfl (by kernel_rfl) (by kernel_rfl) (by kernel_rfl) (fun _ _ _ h => h) (Or.inl ⟨by rfl, ?_⟩) HS0 ?_
      rotate_left
      · intro W hW; (try dsimp only at hW); go_simp; try (with_reducible rfl)
      (try simp only [List.getElem_toArray, List.getElem_cons_succ, List.getElem_cons_zero, Act.put, List.setIfInBounds_toArray, List.set_cons_zero, List.set_cons_succ])
      refine run_one (i := 4) (by kernel_rfl) rfl rfl ?_
      intro K hK
      go_simp
      refine (HOP.out _ HS0.1).mono ?_
      rintro e w8 ⟨A8, c8, l8, rfl, hn8, hb8⟩
      refine hK.out _ _ (HKS.out _ (below_next HS0.1 hb8)) ?_
      clear hK K
      have HSP := HS0
      clear HS0
      intro HS0
      refine wpAnyH_take (i := 6) (v := ?_) rfl (by kernel_rfl) (by kernel_rfl) (by kernel_rfl) (fun _ _ _ h => h) (Or.inl ⟨by rfl, ?_⟩) HS0 ?_
      rotate_left
      · intro W hW; (try dsimp only at hW); go_simp; try (with_reducible rfl)
      (try simp only [List.getElem_toArray, List.getElem_cons_succ, List.getElem_cons_zero, Act.put, List.setIfInBounds_toArray, List.set_cons_zero, List.set_cons_succ])
      refine wpAnyH_done (by kernel_rfl) ?_ _
      simp only [LastQ]
      have HF := Lib.hid (fun W (hf : Fr (fun i => i = w.heap.size + 1 + 1) w8 W) => jf_ret (HX7.out.on HS0.1) (jf_mk (b := true) hn8 (HX7n.out.on HS0.1)) (below_next HST0.out.below (below_next HB.out HS0.1)) (by omega) hf)
      obtain ⟨k0, k1, k2, z0, z1, z2, hlt⟩ := (HX7.out.on HS0.1).facts
      clear HS0 hb8 hn8
      go_simp
      go_wp2
      refine bodyPost_ret (v := .agg #[.bool true, .slice A8 l8.length c8, .slice A7 l7.length c7]) (by simp [results, Tryz.results116, go_sem, k0, k1, k2]) rfl ⟨_, rfl, HF.out _ (fr3 _ _ _)⟩

/-- box B holds a fraction -/
def JVar (w : World) (B : Nat) (b : Bool) (x y : Nat) : Prop := ∃ A1 c1 l1 A2 c2 l2, w.heap[B]? = some (.cells #[.bool b, .slice A1 (l1 : List Nat).length c1, .slice A2 (l2 : List Nat).length c2] 71 (0, 0)) ∧ NatR w A1 c1 l1 x ∧ NatR w A2 c2 l2 y
theorem JVar.on {w w' : World} {B : Nat} {b : Bool} {x y : Nat} (h : JVar w B b x y) (hb : Below w.heap.size w w') : JVar w' B b x y := by
  obtain ⟨A1, c1, l1, A2, c2, l2, e, h1, h2⟩ := h
  exact ⟨A1, c1, l1, A2, c2, l2, (hb.block B (heap_lt e)).trans e, h1.on hb, h2.on hb⟩
theorem JVar.lt {w : World} {B : Nat} {b : Bool} {x y : Nat} (h : JVar w B b x y) : B < w.heap.size := by
  obtain ⟨A1, c1, l1, A2, c2, l2, e, h1, h2⟩ := h
  exact heap_lt e
/-- what lies in such a box, as a value -/
theorem JVar.get {w : World} {B : Nat} {b : Bool} {x y : Nat} (h : JVar w B b x y) : ∃ A1 c1 l1 A2 c2 l2, (∀ W, Below w.heap.size w W → W.cell? ⟨B, 0, none⟩ = some (.bool b) ∧ W.cell? ⟨B, 1, none⟩ = some (.slice A1 (l1 : List Nat).length c1) ∧ W.cell? ⟨B, 2, none⟩ = some (.slice A2 (l2 : List Nat).length c2)) ∧ NatR w A1 c1 l1 x ∧ NatR w A2 c2 l2 y := by
  obtain ⟨A1, c1, l1, A2, c2, l2, e, h1, h2⟩ := h
  refine ⟨A1, c1, l1, A2, c2, l2, fun W hW => ?_, h1, h2⟩
  have e' := (hW.block B (heap_lt e)).trans e
  exact ⟨by rw [cellsAt e']; rfl, by rw [cellsAt e']; rfl, by rw [cellsAt e']; rfl⟩
theorem jvar_set {w : World} {B : Nat} {u0 u1 u2 : Value} {A1 A2 : Option Addr} {c1 c2 : Nat} {l1 l2 : List Nat} {b : Bool} {x y : Nat} (hX : w.heap[B]? = some (.cells #[u0, u1, u2] 71 (0, 0))) (hne : ∀ z, u0 ≠ .int .u64 z ∧ u1 ≠ .int .u64 z ∧ u2 ≠ .int .u64 z) (h1 : NatR w A1 c1 l1 x) (h2 : NatR w A2 c2 l2 y) :
    JVar (((w.setCell ⟨B, 0, none⟩ (.bool b)).setCell ⟨B, 1, none⟩ (.slice A1 l1.length c1)).setCell ⟨B, 2, none⟩ (.slice A2 l2.length c2)) B b x y := by
  have hf := fr3 (w := w) (B := B) (.bool b) (.slice A1 l1.length c1) (.slice A2 l2.length c2)
  have key : ∀ A c l x, NatR w A c l x → NatR (((w.setCell ⟨B, 0, none⟩ (.bool b)).setCell ⟨B, 1, none⟩ (.slice A1 l1.length c1)).setCell ⟨B, 2, none⟩ (.slice A2 l2.length c2)) A c l x := fun A c l x h => h.keepB hf.size (fun b o e hb hl => hf.block b hb (h.apartB hX (by intro v hv z; have := hne z; simp at hv; rcases hv with rfl | rfl | rfl <;> simp [this]) b o e hl))
  refine ⟨A1, c1, l1, A2, c2, l2, ?_, key _ _ _ _ h1, key _ _ _ _ h2⟩
  simp [World.setCell, Array.getElem?_modify, hX]
theorem pl_lt {b1 b2 : Bool} {x1 y1 x2 y2 n : Nat} (hx1 : x1 < W64 ^ n) (hy1 : y1 < W64 ^ n) (hx2 : x2 < W64 ^ n) (hy2 : y2 < W64 ^ n) : plX b1 x1 y1 b2 x2 y2 < W64 ^ (n + n + 1) ∧ y1 * y2 < W64 ^ (n + n + 1) := by
  have h1 : x1 * y2 < W64 ^ (n + n) := by rw [Nat.pow_add]; exact Nat.mul_lt_mul'' hx1 hy2
  have h2 : x2 * y1 < W64 ^ (n + n) := by rw [Nat.pow_add]; exact Nat.mul_lt_mul'' hx2 hy1
  have h3 : y1 * y2 < W64 ^ (n + n) := by rw [Nat.pow_add]; exact Nat.mul_lt_mul'' hy1 hy2
  rw [Nat.pow_succ]
  have h4 : W64 ^ (n + n) * 2 ≤ W64 ^ (n + n) * W64 := Nat.mul_le_mul_left _ (by unfold W64; omega)
  refine ⟨?_, by omega⟩
  unfold plX
  split
  · omega
  · split <;> omega

set_option maxHeartbeats 8000000 in
set_option maxRecDepth 100000 in
theorem jCompare_any (n : Nat) (u v : Value) (ba bb : Bool) (xa ya xb yb : Nat) (w : World) (hn : n ≤ 400000) (ha : JF w u ba xa ya) (hb : JF w v bb xb yb) (hx1 : xa < W64 ^ n) (hy1 : ya < W64 ^ n) (hx2 : xb < W64 ^ n) (hy2 : yb < W64 ^ n) (hpa : 0 < ya) (hpb : 0 < yb) :
    Calls Tryz.prog 77 #[u, v] w fun e w' => e = .returned (.int .i64 (ordQ (mkRat (sg ba xa) ya) (mkRat (sg bb xb) yb))) ∧ Below w.heap.size w w' := by
  have hpl := pl_lt (b1 := ba) (b2 := !bb) hx1 hy1 hx2 hy2
  have hord : ordQ (mkRat (sg ba xa) ya) (mkRat (sg bb xb) yb) = if plX ba xa ya (!bb) xb yb = 0 then 0 else if plB ba xa ya (!bb) xb yb = true then -1 else 1 := by
    rw [sgn_mk _ (show 0 < ya * yb from Nat.mul_pos hpa hpb), pl_eq _ _ _ _ hpa hpb, opp_eq, ← Rat.sub_eq_add_neg]
    exact (ordQ_eq _ _).symm
  have HPL := Lib.hid (fun W v3 (h1 : JF W u ba xa ya) (h2 : JF W v3 (!bb) xb yb) => jPlus_any n u v3 ba (!bb) xa ya xb yb W hn h1 h2 hx1 hy1 hx2 hy2)
  have HOPP := Lib.hid (fun W (h : JF W v bb xb yb) => jOpp_any v bb xb yb W h)
  have HFF := Lib.hid (fun W (h : Below w.heap.size w W) => ha.on h)
  have HFG := Lib.hid (fun W (h : Below w.heap.size w W) => hb.on h)
  obtain ⟨A1, c1, l1, A2, c2, l2, rfl, ha1, ha2⟩ := ha
  obtain ⟨A3, c3, l3, A4, c4, l4, rfl, hb1, hb2⟩ := hb
  clear ha1 ha2 hb1 hb2
  obtain ⟨PB, hPB⟩ : ∃ PB, PB = plB ba xa ya (!bb) xb yb := ⟨_, rfl⟩
  obtain ⟨PX, hPX⟩ : ∃ PX, PX = plX ba xa ya (!bb) xb yb := ⟨_, rfl⟩
  obtain ⟨PY, hPY⟩ : ∃ PY, PY = ya * yb := ⟨_, rfl⟩
  rw [← hPB, ← hPX, ← hPY] at HPL
  rw [← hPB, ← hPX] at hord
  rw [← hPX] at hpl
  have HLT := Lib.hid hpl.1
  rw [hord]
  obtain ⟨rv, hrv⟩ : ∃ rv : Int, rv = if PX = 0 then 0 else if PB = true then -1 else 1 := ⟨_, rfl⟩
  rw [← hrv]
  have HRV := Lib.hid hrv
  obtain ⟨W0, hW0⟩ : ∃ W0, W0 = (w.alloc (.cells #[.bool ba, .slice A1 l1.length c1, .slice A2 l2.length c2] 71)).alloc (.cells #[.bool bb, .slice A3 l3.length c3, .slice A4 l4.length c4] 71) := ⟨_, rfl⟩
  have HST0 := Lib.hid (show St w W0 [(w.heap.size, .cells #[.bool ba, .slice A1 l1.length c1, .slice A2 l2.length c2] 71 (0, 0)), (w.heap.size + 1, .cells #[.bool bb, .slice A3 l3.length c3, .slice A4 l4.length c4] 71 (0, 0))] by rw [hW0]; exact ((St.start w).alloc _ _ rfl).alloc _ _ (by simp))
  have HFF' := Lib.hid (fun W (h : Below W0.heap.size W0 W) => HFF.out W (below_next HST0.out.below h))
  have HFG' := Lib.hid (fun W (h : Below W0.heap.size W0 W) => HFG.out W (below_next HST0.out.below h))
  clear HFF HFG hord hpl hrv hPB hPX hPY hx1 hx2 hy1 hy2 hpa hpb
  have HFF := HFF'
  have HFG := HFG'
  clear HFF' HFG'
  go_enter Tryz.func77, Tryz.ntmps77
  go_wp2_with fail
  rw [← hW0]
  clear hW0
  have HKS := Lib.hid (show ∀ X, Below W0.heap.size W0 X → (fun X => Below W0.heap.size W0 X ∧ X.cell? ⟨w.heap.size, 0, none⟩ = some (.bool ba) ∧ X.cell? ⟨w.heap.size, 1, none⟩ = some (.slice A1 l1.length c1) ∧ X.cell? ⟨w.heap.size, 2, none⟩ = some (.slice A2 l2.length c2) ∧ X.cell? ⟨w.heap.size + 1, 0, none⟩ = some (.bool bb) ∧ X.cell? ⟨w.heap.size + 1, 1, none⟩ = some (.slice A3 l3.length c3) ∧ X.cell? ⟨w.heap.size + 1, 2, none⟩ = some (.slice A4 l4.length c4)) X from fun X hX => ⟨hX, (HST0.out.call hX).cell 0 0 rfl rfl, (HST0.out.call hX).cell 0 1 rfl rfl, (HST0.out.call hX).cell 0 2 rfl rfl, (HST0.out.call hX).cell 1 0 rfl rfl, (HST0.out.call hX).cell 1 1 rfl rfl, (HST0.out.call hX).cell 1 2 rfl rfl⟩)
  obtain ⟨_, f0, f1, f2, f3, f4, f5⟩ := HKS.out W0 (Below.refl _ W0)
  go_cut [5] from 11 (fun v wx => ∃ B, v = .pointer (some ⟨B, 0, none⟩) ∧ JVar wx B PB PX PY ∧ Below W0.heap.size W0 wx)
  case first =>
    go_region_held3 (fun X => Below W0.heap.size W0 X ∧ X.cell? ⟨w.heap.size, 0, none⟩ = some (.bool ba) ∧ X.cell? ⟨w.heap.size, 1, none⟩ = some (.slice A1 l1.length c1) ∧ X.cell? ⟨w.heap.size, 2, none⟩ = some (.slice A2 l2.length c2) ∧ X.cell? ⟨w.heap.size + 1, 0, none⟩ = some (.bool bb) ∧ X.cell? ⟨w.heap.size + 1, 1, none⟩ = some (.slice A3 l3.length c3) ∧ X.cell? ⟨w.heap.size + 1, 2, none⟩ = some (.slice A4 l4.length c4))
      (first
        | exact HKS.out _ (Below.refl _ W0).drew
        | exact HKS.out _ ((Below.refl _ W0).alloc (Nat.le_refl _) _).drew
        | (go_split_ands; refine HKS.out _ (below_next ?_ hb3); assumption)
        | (go_split_ands; refine HKS.out _ (below_next ?_ hb4); assumption)
        | (go_split_ands; refine HKS.out _ (below_next ?_ ((Below.refl _ _).alloc (Nat.le_refl _) _)); assumption)
        | (go_split_ands; refine HKS.out _ (below_realloc (Z := .cells #[.bool false, .slice none 0 0, .slice none 0 0] 71) ?_ (by omega)); assumption)
        | (go_split_ands; exact HKS.out _ (((Below.setCell (by assumption) (by show W0.heap.size ≤ _; first | exact Nat.le_refl _ | (dsimp only; omega) | omega) _).setCell (by show W0.heap.size ≤ _; first | exact Nat.le_refl _ | (dsimp only; omega) | omega) _).setCell (by show W0.heap.size ≤ _; first | exact Nat.le_refl _ | (dsimp only; omega) | omega) _)))
      (first
        | (go_at_call 117; (with_reducible refine (HOPP.out _ (HFG.out _ (by go_split_ands; assumption))).mono ?_); rintro e w3 ⟨v3, rfl, hv3, hb3⟩; have s3 : W0.heap.size ≤ w3.heap.size := (by first | exact hb3.size | exact Nat.le_trans (Nat.le_of_lt (by simp)) hb3.size | exact Nat.le_trans (Nat.le_succ _) hb3.size))
        | (go_at_call 116; (with_reducible refine (HPL.out _ v3 (HFF.out _ (by go_split_ands; assumption)) ?_).mono ?_); (first | exact hv3 | exact JF.on (hv3) ((Below.refl _ _).alloc (Nat.le_refl _) _)); rintro e w4 ⟨_, rfl, ⟨A7, c7, l7, A8, c8, l8, rfl, h7, h8⟩, hb4⟩; have s4 : w3.heap.size ≤ w4.heap.size := (by first | exact hb4.size | exact Nat.le_trans (Nat.le_of_lt (by simp)) hb4.size | exact Nat.le_trans (Nat.le_succ _) hb4.size); (first | (have HBX := (JBox.on (alloc_at w3 _ _ rfl : JBox (w3.alloc (.cells #[.bool false, .slice none 0 0, .slice none 0 0] 71)) w3.heap.size) hb4)) | (have HBX := (JBox.on (JBox.on (show JBox ((W0.alloc (.cells #[.bool false, .slice none 0 0, .slice none 0 0] 71)).drew) W0.heap.size from alloc_at W0 _ _ rfl) hb3) hb4)) | have HBX := True.intro); (try obtain ⟨p0, p1, p2, z0, z1, z2, hlt⟩ := HBX.facts)))
    all_goals go_wp2_with fail
    all_goals go_meet
    all_goals first
      | exact ⟨_, rfl, jvar_set HBX (by simp) h7 h8, by go_split_ands; assumption⟩
      | exact ⟨_, rfl, ⟨A7, c7, l7, A8, c8, l8, alloc_at _ _ _ rfl, h7.on ((Below.refl _ _).alloc (Nat.le_refl _) _), h8.on ((Below.refl _ _).alloc (Nat.le_refl _) _)⟩, by go_split_ands; assumption⟩
  case rest =>
    obtain ⟨B9, rfl, hv9, hbc⟩ := hcut
    obtain ⟨A9, c9, l9, A0, c0, l0, hg, n9, n0⟩ := hv9.get
    have HBC := Lib.hid (below_next HST0.out.below hbc)
    have hl9 : l9.length ≤ n + n + 1 := n9.len HLT.out
    have hq0 : ((l9.length : Int) == 0) = decide (PX = 0) := by
      rw [Bool.eq_iff_iff]; simp only [beq_iff_eq, decide_eq_true_eq]
      constructor
      · intro hz
        have : l9 = [] := List.eq_nil_of_length_eq_zero (by omega)
        subst this
        have := n9.val; simpa [val] using this.symm
      · intro hz
        rw [(val_zero W64_pos n9.norm).1 (by rw [n9.val, hz])]; rfl
    have HZ := Lib.hid (fun W => natZero_any A9 c9 l9 W (by omega))
    rw [hq0] at HZ
    obtain ⟨zb, hzb⟩ : ∃ zb, zb = decide (PX = 0) := ⟨_, rfl⟩
    rw [← hzb] at HZ
    have HZB := Lib.hid hzb
    obtain ⟨g0, g1, g2⟩ := hg wc (Below.refl _ _)
    clear f0 f1 f2 f3 f4 f5 hbc hq0 hzb hg n9 n0 hv9
    go_wp2_with fail
    (with_reducible refine (HZ.out _).mono ?_)
    rintro e w4 ⟨rfl, rfl⟩
    cases zb with
    | true =>
      have HR := Lib.hid (show rv = 0 by rw [HRV.out, if_pos (of_decide_eq_true HZB.out.symm)])
      go_wp2
      go_ret
      exact ⟨by rw [HR.out]; rfl, HBC.out⟩
    | false =>
      have HR := Lib.hid (show rv = if PB = true then -1 else 1 by rw [HRV.out, if_neg (of_decide_eq_false HZB.out.symm)])
      cases PB with
      | true =>
        rw [if_pos rfl] at HR
        go_wp2
        go_ret
        exact ⟨by rw [HR.out]; rfl, HBC.out⟩
      | false =>
        rw [if_neg (by decide)] at HR
        go_wp2
        go_ret
        exact ⟨by rw [HR.out]; rfl, HBC.out⟩

end Go.Proofs.YtlkjgjojahjapaaGreatDoor
