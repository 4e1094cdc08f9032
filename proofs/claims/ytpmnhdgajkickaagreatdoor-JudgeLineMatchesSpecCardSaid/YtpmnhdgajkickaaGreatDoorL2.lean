import Derived.Test.YtpmnhdgajkickaaGreatDoorJFrac2
import Derived.Test.YtpmnhdgajkickaaGreatDoorL5
import Derived.Test.YtpmnhdgajkickaaGreatDoorJRatio
/- Package judge: fractions in memory: times, over. Printed by gen_jarith.py. -/
namespace Go.Proofs.YtpmnhdgajkickaaGreatDoor
open Go Go.RowKit Go.Proofs

set_option maxHeartbeats 8000000 in
set_option maxRecDepth 100000 in
theorem jTimes_any (n : Nat) (u v : Value) (ba bb : Bool) (xa ya xb yb : Nat) (w : World) (hn : n ≤ 400000) (ha : JF w u ba xa ya) (hb : JF w v bb xb yb) (hx1 : xa < W64 ^ n) (hy1 : ya < W64 ^ n) (hx2 : xb < W64 ^ n) (hy2 : yb < W64 ^ n) :
    Calls Tryz.prog 75 #[u, v] w (JFPost (ba != bb) (xa * xb) (ya * yb) w) := by
  obtain ⟨A1, c1, l1, A2, c2, l2, rfl, ha1, ha2⟩ := ha
  obtain ⟨A3, c3, l3, A4, c4, l4, rfl, hb1, hb2⟩ := hb
  have la1 := ha1.len hx1
  have la2 := ha2.len hy1
  have lb1 := hb1.len hx2
  have lb2 := hb2.len hy2
  obtain ⟨W0, hW0⟩ : ∃ W0, W0 = ((w.alloc (.cells #[.bool ba, .slice A1 l1.length c1, .slice A2 l2.length c2] 53)).alloc (.cells #[.bool bb, .slice A3 l3.length c3, .slice A4 l4.length c4] 53)).alloc (.cells #[.bool false, .slice none 0 0, .slice none 0 0] 53) := ⟨_, rfl⟩
  have HST0 := Lib.hid (show St w W0 [(w.heap.size, .cells #[.bool ba, .slice A1 l1.length c1, .slice A2 l2.length c2] 53 (0, 0)), (w.heap.size + 1, .cells #[.bool bb, .slice A3 l3.length c3, .slice A4 l4.length c4] 53 (0, 0)), (w.heap.size + 1 + 1, .cells #[.bool false, .slice none 0 0, .slice none 0 0] 53 (0, 0))] by rw [hW0]; exact (((St.start w).alloc _ _ rfl).alloc _ _ (by simp)).alloc _ _ (by simp))
  have hs0 : W0.heap.size = w.heap.size + 3 := by rw [hW0]; simp
  have HX0 := Lib.hid (show JBox W0 (w.heap.size + 1 + 1) from HST0.out.at 2 rfl)
  have HA1 := Lib.hid (ha1.on HST0.out.below)
  have HA2 := Lib.hid (ha2.on HST0.out.below)
  have HA3 := Lib.hid (hb1.on HST0.out.below)
  have HA4 := Lib.hid (hb2.on HST0.out.below)
  have HM1 := Lib.hid (fun W (hb : Below W0.heap.size W0 W) => natMul_any A1 A3 c1 c3 l1 l3 _ _ W (HA1.out.on hb) (HA3.out.on hb) (by omega) (by omega))
  have HM2 := Lib.hid (fun W (hb : Below W0.heap.size W0 W) => natMul_any A2 A4 c2 c4 l2 l4 _ _ W (HA2.out.on hb) (HA4.out.on hb) (by omega) (by omega))
  obtain ⟨X, hX⟩ : ∃ X, X = xa * xb := ⟨_, rfl⟩
  obtain ⟨Y, hY⟩ : ∃ Y, Y = ya * yb := ⟨_, rfl⟩
  rw [← hX] at HM1 ⊢
  rw [← hY] at HM2 ⊢
  clear ha1 ha2 hb1 hb2 hx1 hx2 hy1 hy2 hX hY
  have HKS := Lib.hid (show ∀ X, Below W0.heap.size W0 X → (fun X => Below W0.heap.size W0 X ∧ X.cell? ⟨w.heap.size, 0, none⟩ = some (.bool ba) ∧ X.cell? ⟨w.heap.size, 1, none⟩ = some (.slice A1 l1.length c1) ∧ X.cell? ⟨w.heap.size, 2, none⟩ = some (.slice A2 l2.length c2) ∧ X.cell? ⟨w.heap.size + 1, 0, none⟩ = some (.bool bb) ∧ X.cell? ⟨w.heap.size + 1, 1, none⟩ = some (.slice A3 l3.length c3) ∧ X.cell? ⟨w.heap.size + 1, 2, none⟩ = some (.slice A4 l4.length c4)) X from fun X hX => ⟨hX, (HST0.out.call hX).cell 0 0 rfl rfl, (HST0.out.call hX).cell 0 1 rfl rfl, (HST0.out.call hX).cell 0 2 rfl rfl, (HST0.out.call hX).cell 1 0 rfl rfl, (HST0.out.call hX).cell 1 1 rfl rfl, (HST0.out.call hX).cell 1 2 rfl rfl⟩)
  go_enter Tryz.func75, Tryz.ntmps75
  go_wp2_with fail
  rw [← hW0]
  clear hW0
  refine wp_region_last (init := #[_, _, _, _, _, _, _, _, _, _, _, _, _, _, _, _]) (last := _) rfl (by kernel_rfl) (by kernel_rfl) (by kernel_rfl) ?_
  show wpAny _ _ _ _ 16 (Array.replicate 16 false) _ _
  refine wpAny_of_held (S := (fun X => Below W0.heap.size W0 X ∧ X.cell? ⟨w.heap.size, 0, none⟩ = some (.bool ba) ∧ X.cell? ⟨w.heap.size, 1, none⟩ = some (.slice A1 l1.length c1) ∧ X.cell? ⟨w.heap.size, 2, none⟩ = some (.slice A2 l2.length c2) ∧ X.cell? ⟨w.heap.size + 1, 0, none⟩ = some (.bool bb) ∧ X.cell? ⟨w.heap.size + 1, 1, none⟩ = some (.slice A3 l3.length c3) ∧ X.cell? ⟨w.heap.size + 1, 2, none⟩ = some (.slice A4 l4.length c4))) _ _ _ _ ?_
  have HS0 := HKS.out _ (Below.refl _ W0).drew
  refine wpAnyH_take (i := 0) (v := ?_) rfl (by kernel_rfl) (by kernel_rfl) (by kernel_rfl) (fun _ _ _ h => h) (Or.inl ⟨by rfl, ?_⟩) HS0 ?_
  rotate_left
  · intro W hW; (try dsimp only at hW); go_simp; try (with_reducible rfl)
  (try simp only [List.getElem_toArray, List.getElem_cons_succ, List.getElem_cons_zero, Act.put, List.setIfInBounds_toArray, List.set_cons_zero, List.set_cons_succ])
  refine wpAnyH_take (i := 1) (v := ?_) rfl (by kernel_rfl) (by kernel_rfl) (by kernel_rfl) (fun _ _ _ h => h) (Or.inl ⟨by rfl, ?_⟩) HS0 ?_
  rotate_left
  · intro W hW; (try dsimp only at hW); go_simp; try (with_reducible rfl)
  (try simp only [List.getElem_toArray, List.getElem_cons_succ, List.getElem_cons_zero, Act.put, List.setIfInBounds_toArray, List.set_cons_zero, List.set_cons_succ])
  refine wpAnyH_take (i := 2) (v := ?_) rfl (by kernel_rfl) (by kernel_rfl) (by kernel_rfl) (fun _ _ _ h => h) (Or.inl ⟨by rfl, ?_⟩) HS0 ?_
  rotate_left
  · intro W hW; (try dsimp only at hW); go_simp; try (with_reducible rfl)
  (try simp only [List.getElem_toArray, List.getElem_cons_succ, List.getElem_cons_zero, Act.put, List.setIfInBounds_toArray, List.set_cons_zero, List.set_cons_succ])
  refine wpAnyH_take (i := 3) (v := ?_) rfl (by kernel_rfl) (by kernel_rfl) (by kernel_rfl) (fun _ _ _ h => h) (Or.inl ⟨by rfl, ?_⟩) HS0 ?_
  rotate_left
  · intro W hW; (try dsimp only at hW); go_simp; try (with_reducible rfl)
  (try simp only [List.getElem_toArray, List.getElem_cons_succ, List.getElem_cons_zero, Act.put, List.setIfInBounds_toArray, List.set_cons_zero, List.set_cons_succ])
  refine wpAnyH_take (i := 4) (v := ?_) rfl (by kernel_rfl) (by kernel_rfl) (by kernel_rfl) (fun _ _ _ h => h) (Or.inl ⟨by rfl, ?_⟩) HS0 ?_
  rotate_left
  · intro W hW; (try dsimp only at hW); go_simp; try (with_reducible rfl)
  (try simp only [List.getElem_toArray, List.getElem_cons_succ, List.getElem_cons_zero, Act.put, List.setIfInBounds_toArray, List.set_cons_zero, List.set_cons_succ])
  refine wpAnyH_take (i := 5) (v := ?_) rfl (by kernel_rfl) (by kernel_rfl) (by kernel_rfl) (fun _ _ _ h => h) (Or.inl ⟨by rfl, ?_⟩) HS0 ?_
  rotate_left
  · intro W hW; (try dsimp only at hW); go_simp; try (with_reducible rfl)
  (try simp only [List.getElem_toArray, List.getElem_cons_succ, List.getElem_cons_zero, Act.put, List.setIfInBounds_toArray, List.set_cons_zero, List.set_cons_succ])
  refine wpAnyH_take (i := 6) (v := ?_) rfl (by kernel_rfl) (by kernel_rfl) (by kernel_rfl) (fun _ _ _ h => h) (Or.inl ⟨by rfl, ?_⟩) HS0 ?_
  rotate_left
  · intro W hW; (try dsimp only at hW); go_simp; try (with_reducible rfl)
  (try simp only [List.getElem_toArray, List.getElem_cons_succ, List.getElem_cons_zero, Act.put, List.setIfInBounds_toArray, List.set_cons_zero, List.set_cons_succ])
  refine wpAnyH_take (i := 7) (v := ?_) rfl (by kernel_rfl) (by kernel_rfl) (by kernel_rfl) (fun _ _ _ h => h) (Or.inl ⟨by rfl, ?_⟩) HS0 ?_
  rotate_left
  · intro W hW; (try dsimp only at hW); go_simp; try (with_reducible rfl)
  (try simp only [List.getElem_toArray, List.getElem_cons_succ, List.getElem_cons_zero, Act.put, List.setIfInBounds_toArray, List.set_cons_zero, List.set_cons_succ])
  refine wpAnyH_take (i := 8) (v := ?_) rfl (by kernel_rfl) (by kernel_rfl) (by kernel_rfl) (fun _ _ _ h => h) (Or.inl ⟨by rfl, ?_⟩) HS0 ?_
  rotate_left
  · intro W hW; (try dsimp only at hW); go_simp; try (with_reducible rfl)
  (try simp only [List.getElem_toArray, List.getElem_cons_succ, List.getElem_cons_zero, Act.put, List.setIfInBounds_toArray, List.set_cons_zero, List.set_cons_succ])
  refine wpAnyH_take (i := 10) (v := ?_) rfl (by kernel_rfl) (by kernel_rfl) (by kernel_rfl) (fun _ _ _ h => h) (Or.inl ⟨by rfl, ?_⟩) HS0 ?_
  rotate_left
  · intro W hW; (try dsimp only at hW); go_simp; try (with_reducible rfl)
  (try simp only [List.getElem_toArray, List.getElem_cons_succ, List.getElem_cons_zero, Act.put, List.setIfInBounds_toArray, List.set_cons_zero, List.set_cons_succ])
  refine wpAnyH_take (i := 11) (v := ?_) rfl (by kernel_rfl) (by kernel_rfl) (by kernel_rfl) (fun _ _ _ h => h) (Or.inl ⟨by rfl, ?_⟩) HS0 ?_
  rotate_left
  · intro W hW; (try dsimp only at hW); go_simp; try (with_reducible rfl)
  (try simp only [List.getElem_toArray, List.getElem_cons_succ, List.getElem_cons_zero, Act.put, List.setIfInBounds_toArray, List.set_cons_zero, List.set_cons_succ])
  refine wpAnyH_take (i := 12) (v := ?_) rfl (by kernel_rfl) (by kernel_rfl) (by kernel_rfl) (fun _ _ _ h => h) (Or.inl ⟨by rfl, ?_⟩) HS0 ?_
  rotate_left
  · intro W hW; (try dsimp only at hW); go_simp; try (with_reducible rfl)
  (try simp only [List.getElem_toArray, List.getElem_cons_succ, List.getElem_cons_zero, Act.put, List.setIfInBounds_toArray, List.set_cons_zero, List.set_cons_succ])
  refine wpAnyH_take (i := 13) (v := ?_) rfl (by kernel_rfl) (by kernel_rfl) (by kernel_rfl) (fun _ _ _ h => h) (Or.inl ⟨by rfl, ?_⟩) HS0 ?_
  rotate_left
  · intro W hW; (try dsimp only at hW); go_simp; try (with_reducible rfl)
  (try simp only [List.getElem_toArray, List.getElem_cons_succ, List.getElem_cons_zero, Act.put, List.setIfInBounds_toArray, List.set_cons_zero, List.set_cons_succ])
  refine run_one (i := 9) (by kernel_rfl) rfl rfl ?_
  intro K hK
  go_simp
  refine (HM1.out _ HS0.1).mono ?_
  rintro e w8 ⟨A8, c8, l8, rfl, hn8, hb8⟩
  refine hK.out _ _ (HKS.out _ (below_next HS0.1 hb8)) ?_
  clear hK K
  have HSP := HS0
  clear HS0
  intro HS0
  refine run_one (i := 14) (by kernel_rfl) rfl rfl ?_
  intro K hK
  go_simp
  refine (HM2.out _ HS0.1).mono ?_
  rintro e w9 ⟨A9, c9, l9, rfl, hn9, hb9⟩
  refine hK.out _ _ (HKS.out _ (below_next HS0.1 hb9)) ?_
  clear hK K
  have HSP := HS0
  clear HS0
  intro HS0
  refine wpAnyH_take (i := 15) (v := ?_) rfl (by kernel_rfl) (by kernel_rfl) (by kernel_rfl) (fun _ _ _ h => h) (Or.inl ⟨by rfl, ?_⟩) HS0 ?_
  rotate_left
  · intro W hW; (try dsimp only at hW); go_simp; try (with_reducible rfl)
  (try simp only [List.getElem_toArray, List.getElem_cons_succ, List.getElem_cons_zero, Act.put, List.setIfInBounds_toArray, List.set_cons_zero, List.set_cons_succ])
  refine wpAnyH_done (by kernel_rfl) ?_ _
  simp only [LastQ]
  have HF := Lib.hid (fun W (hf : Fr (fun i => i = w.heap.size + 1 + 1) w9 W) => jf_ret (HX0.out.on HS0.1) (jf_mk (b := !(ba == bb)) (hn8.on hb9) hn9) (below_next HST0.out.below HS0.1) (by omega) hf)
  obtain ⟨k0, k1, k2, z0, z1, z2, hlt⟩ := (HX0.out.on HS0.1).facts
  clear HS0 HSP hb8 hb9 hn8 hn9
  go_simp
  go_wp2
  refine bodyPost_ret (v := .agg #[.bool (!(ba == bb)), .slice A8 l8.length c8, .slice A9 l9.length c9]) (by simp [results, Tryz.results75, go_sem, k0, k1, k2]) rfl ⟨_, rfl, HF.out _ (fr3 _ _ _)⟩

set_option maxHeartbeats 8000000 in
set_option maxRecDepth 100000 in
theorem jOver_any (n : Nat) (u v : Value) (ba bb : Bool) (xa ya xb yb : Nat) (w : World) (hn : n ≤ 400000) (ha : JF w u ba xa ya) (hb : JF w v bb xb yb) (hx1 : xa < W64 ^ n) (hy1 : ya < W64 ^ n) (hx2 : xb < W64 ^ n) (hy2 : yb < W64 ^ n) :
    Calls Tryz.prog 73 #[u, v] w (JFPost (ba != bb) (xa * yb) (ya * xb) w) := by
  obtain ⟨A1, c1, l1, A2, c2, l2, rfl, ha1, ha2⟩ := ha
  obtain ⟨A3, c3, l3, A4, c4, l4, rfl, hb1, hb2⟩ := hb
  have la1 := ha1.len hx1
  have la2 := ha2.len hy1
  have lb1 := hb1.len hx2
  have lb2 := hb2.len hy2
  obtain ⟨W0, hW0⟩ : ∃ W0, W0 = ((w.alloc (.cells #[.bool ba, .slice A1 l1.length c1, .slice A2 l2.length c2] 53)).alloc (.cells #[.bool bb, .slice A3 l3.length c3, .slice A4 l4.length c4] 53)).alloc (.cells #[.bool false, .slice none 0 0, .slice none 0 0] 53) := ⟨_, rfl⟩
  have HST0 := Lib.hid (show St w W0 [(w.heap.size, .cells #[.bool ba, .slice A1 l1.length c1, .slice A2 l2.length c2] 53 (0, 0)), (w.heap.size + 1, .cells #[.bool bb, .slice A3 l3.length c3, .slice A4 l4.length c4] 53 (0, 0)), (w.heap.size + 1 + 1, .cells #[.bool false, .slice none 0 0, .slice none 0 0] 53 (0, 0))] by rw [hW0]; exact (((St.start w).alloc _ _ rfl).alloc _ _ (by simp)).alloc _ _ (by simp))
  have hs0 : W0.heap.size = w.heap.size + 3 := by rw [hW0]; simp
  have HX0 := Lib.hid (show JBox W0 (w.heap.size + 1 + 1) from HST0.out.at 2 rfl)
  have HA1 := Lib.hid (ha1.on HST0.out.below)
  have HA2 := Lib.hid (ha2.on HST0.out.below)
  have HA3 := Lib.hid (hb1.on HST0.out.below)
  have HA4 := Lib.hid (hb2.on HST0.out.below)
  have HM1 := Lib.hid (fun W (hb : Below W0.heap.size W0 W) => natMul_any A1 A4 c1 c4 l1 l4 _ _ W (HA1.out.on hb) (HA4.out.on hb) (by omega) (by omega))
  have HM2 := Lib.hid (fun W (hb : Below W0.heap.size W0 W) => natMul_any A2 A3 c2 c3 l2 l3 _ _ W (HA2.out.on hb) (HA3.out.on hb) (by omega) (by omega))
  obtain ⟨X, hX⟩ : ∃ X, X = xa * yb := ⟨_, rfl⟩
  obtain ⟨Y, hY⟩ : ∃ Y, Y = ya * xb := ⟨_, rfl⟩
  rw [← hX] at HM1 ⊢
  rw [← hY] at HM2 ⊢
  clear ha1 ha2 hb1 hb2 hx1 hx2 hy1 hy2 hX hY
  have HKS := Lib.hid (show ∀ X, Below W0.heap.size W0 X → (fun X => Below W0.heap.size W0 X ∧ X.cell? ⟨w.heap.size, 0, none⟩ = some (.bool ba) ∧ X.cell? ⟨w.heap.size, 1, none⟩ = some (.slice A1 l1.length c1) ∧ X.cell? ⟨w.heap.size, 2, none⟩ = some (.slice A2 l2.length c2) ∧ X.cell? ⟨w.heap.size + 1, 0, none⟩ = some (.bool bb) ∧ X.cell? ⟨w.heap.size + 1, 1, none⟩ = some (.slice A3 l3.length c3) ∧ X.cell? ⟨w.heap.size + 1, 2, none⟩ = some (.slice A4 l4.length c4)) X from fun X hX => ⟨hX, (HST0.out.call hX).cell 0 0 rfl rfl, (HST0.out.call hX).cell 0 1 rfl rfl, (HST0.out.call hX).cell 0 2 rfl rfl, (HST0.out.call hX).cell 1 0 rfl rfl, (HST0.out.call hX).cell 1 1 rfl rfl, (HST0.out.call hX).cell 1 2 rfl rfl⟩)
  go_enter Tryz.func73, Tryz.ntmps73
  go_wp2_with fail
  rw [← hW0]
  clear hW0
  refine wp_region_last (init := #[_, _, _, _, _, _, _, _, _, _, _, _, _, _, _, _]) (last := _) rfl (by kernel_rfl) (by kernel_rfl) (by kernel_rfl) ?_
  show wpAny _ _ _ _ 16 (Array.replicate 16 false) _ _
  refine wpAny_of_held (S := (fun X => Below W0.heap.size W0 X ∧ X.cell? ⟨w.heap.size, 0, none⟩ = some (.bool ba) ∧ X.cell? ⟨w.heap.size, 1, none⟩ = some (.slice A1 l1.length c1) ∧ X.cell? ⟨w.heap.size, 2, none⟩ = some (.slice A2 l2.length c2) ∧ X.cell? ⟨w.heap.size + 1, 0, none⟩ = some (.bool bb) ∧ X.cell? ⟨w.heap.size + 1, 1, none⟩ = some (.slice A3 l3.length c3) ∧ X.cell? ⟨w.heap.size + 1, 2, none⟩ = some (.slice A4 l4.length c4))) _ _ _ _ ?_
  have HS0 := HKS.out _ (Below.refl _ W0).drew
  refine wpAnyH_take (i := 0) (v := ?_) rfl (by kernel_rfl) (by kernel_rfl) (by kernel_rfl) (fun _ _ _ h => h) (Or.inl ⟨by rfl, ?_⟩) HS0 ?_
  rotate_left
  · intro W hW; (try dsimp only at hW); go_simp; try (with_reducible rfl)
  (try simp only [List.getElem_toArray, List.getElem_cons_succ, List.getElem_cons_zero, Act.put, List.setIfInBounds_toArray, List.set_cons_zero, List.set_cons_succ])
  refine wpAnyH_take (i := 1) (v := ?_) rfl (by kernel_rfl) (by kernel_rfl) (by kernel_rfl) (fun _ _ _ h => h) (Or.inl ⟨by rfl, ?_⟩) HS0 ?_
  rotate_left
  · intro W hW; (try dsimp only at hW); go_simp; try (with_reducible rfl)
  (try simp only [List.getElem_toArray, List.getElem_cons_succ, List.getElem_cons_zero, Act.put, List.setIfInBounds_toArray, List.set_cons_zero, List.set_cons_succ])
  refine wpAnyH_take (i := 2) (v := ?_) rfl (by kernel_rfl) (by kernel_rfl) (by kernel_rfl) (fun _ _ _ h => h) (Or.inl ⟨by rfl, ?_⟩) HS0 ?_
  rotate_left
  · intro W hW; (try dsimp only at hW); go_simp; try (with_reducible rfl)
  (try simp only [List.getElem_toArray, List.getElem_cons_succ, List.getElem_cons_zero, Act.put, List.setIfInBounds_toArray, List.set_cons_zero, List.set_cons_succ])
  refine wpAnyH_take (i := 3) (v := ?_) rfl (by kernel_rfl) (by kernel_rfl) (by kernel_rfl) (fun _ _ _ h => h) (Or.inl ⟨by rfl, ?_⟩) HS0 ?_
  rotate_left
  · intro W hW; (try dsimp only at hW); go_simp; try (with_reducible rfl)
  (try simp only [List.getElem_toArray, List.getElem_cons_succ, List.getElem_cons_zero, Act.put, List.setIfInBounds_toArray, List.set_cons_zero, List.set_cons_succ])
  refine wpAnyH_take (i := 4) (v := ?_) rfl (by kernel_rfl) (by kernel_rfl) (by kernel_rfl) (fun _ _ _ h => h) (Or.inl ⟨by rfl, ?_⟩) HS0 ?_
  rotate_left
  · intro W hW; (try dsimp only at hW); go_simp; try (with_reducible rfl)
  (try simp only [List.getElem_toArray, List.getElem_cons_succ, List.getElem_cons_zero, Act.put, List.setIfInBounds_toArray, List.set_cons_zero, List.set_cons_succ])
  refine wpAnyH_take (i := 5) (v := ?_) rfl (by kernel_rfl) (by kernel_rfl) (by kernel_rfl) (fun _ _ _ h => h) (Or.inl ⟨by rfl, ?_⟩) HS0 ?_
  rotate_left
  · intro W hW; (try dsimp only at hW); go_simp; try (with_reducible rfl)
  (try simp only [List.getElem_toArray, List.getElem_cons_succ, List.getElem_cons_zero, Act.put, List.setIfInBounds_toArray, List.set_cons_zero, List.set_cons_succ])
  refine wpAnyH_take (i := 6) (v := ?_) rfl (by kernel_rfl) (by kernel_rfl) (by kernel_rfl) (fun _ _ _ h => h) (Or.inl ⟨by rfl, ?_⟩) HS0 ?_
  rotate_left
  · intro W hW; (try dsimp only at hW); go_simp; try (with_reducible rfl)
  (try simp only [List.getElem_toArray, List.getElem_cons_succ, List.getElem_cons_zero, Act.put, List.setIfInBounds_toArray, List.set_cons_zero, List.set_cons_succ])
  refine wpAnyH_take (i := 7) (v := ?_) rfl (by kernel_rfl) (by kernel_rfl) (by kernel_rfl) (fun _ _ _ h => h) (Or.inl ⟨by rfl, ?_⟩) HS0 ?_
  rotate_left
  · intro W hW; (try dsimp only at hW); go_simp; try (with_reducible rfl)
  (try simp only [List.getElem_toArray, List.getElem_cons_succ, List.getElem_cons_zero, Act.put, List.setIfInBounds_toArray, List.set_cons_zero, List.set_cons_succ])
  refine wpAnyH_take (i := 8) (v := ?_) rfl (by kernel_rfl) (by kernel_rfl) (by kernel_rfl) (fun _ _ _ h => h) (Or.inl ⟨by rfl, ?_⟩) HS0 ?_
  rotate_left
  · intro W hW; (try dsimp only at hW); go_simp; try (with_reducible rfl)
  (try simp only [List.getElem_toArray, List.getElem_cons_succ, List.getElem_cons_zero, Act.put, List.setIfInBounds_toArray, List.set_cons_zero, List.set_cons_succ])
  refine wpAnyH_take (i := 10) (v := ?_) rfl (by kernel_rfl) (by kernel_rfl) (by kernel_rfl) (fun _ _ _ h => h) (Or.inl ⟨by rfl, ?_⟩) HS0 ?_
  rotate_left
  · intro W hW; (try dsimp only at hW); go_simp; try (with_reducible rfl)
  (try simp only [List.getElem_toArray, List.getElem_cons_succ, List.getElem_cons_zero, Act.put, List.setIfInBounds_toArray, List.set_cons_zero, List.set_cons_succ])
  refine wpAnyH_take (i := 11) (v := ?_) rfl (by kernel_rfl) (by kernel_rfl) (by kernel_rfl) (fun _ _ _ h => h) (Or.inl ⟨by rfl, ?_⟩) HS0 ?_
  rotate_left
  · intro W hW; (try dsimp only at hW); go_simp; try (with_reducible rfl)
  (try simp only [List.getElem_toArray, List.getElem_cons_succ, List.getElem_cons_zero, Act.put, List.setIfInBounds_toArray, List.set_cons_zero, List.set_cons_succ])
  refine wpAnyH_take (i := 12) (v := ?_) rfl (by kernel_rfl) (by kernel_rfl) (by kernel_rfl) (fun _ _ _ h => h) (Or.inl ⟨by rfl, ?_⟩) HS0 ?_
  rotate_left
  · intro W hW; (try dsimp only at hW); go_simp; try (with_reducible rfl)
  (try simp only [List.getElem_toArray, List.getElem_cons_succ, List.getElem_cons_zero, Act.put, List.setIfInBounds_toArray, List.set_cons_zero, List.set_cons_succ])
  refine wpAnyH_take (i := 13) (v := ?_) rfl (by kernel_rfl) (by kernel_rfl) (by kernel_rfl) (fun _ _ _ h => h) (Or.inl ⟨by rfl, ?_⟩) HS0 ?_
  rotate_left
  · intro W hW; (try dsimp only at hW); go_simp; try (with_reducible rfl)
  (try simp only [List.getElem_toArray, List.getElem_cons_succ, List.getElem_cons_zero, Act.put, List.setIfInBounds_toArray, List.set_cons_zero, List.set_cons_succ])
  refine run_one (i := 9) (by kernel_rfl) rfl rfl ?_
  intro K hK
  go_simp
  refine (HM1.out _ HS0.1).mono ?_
  rintro e w8 ⟨A8, c8, l8, rfl, hn8, hb8⟩
  refine hK.out _ _ (HKS.out _ (below_next HS0.1 hb8)) ?_
  clear hK K
  have HSP := HS0
  clear HS0
  intro HS0
  refine run_one (i := 14) (by kernel_rfl) rfl rfl ?_
  intro K hK
  go_simp
  refine (HM2.out _ HS0.1).mono ?_
  rintro e w9 ⟨A9, c9, l9, rfl, hn9, hb9⟩
  refine hK.out _ _ (HKS.out _ (below_next HS0.1 hb9)) ?_
  clear hK K
  have HSP := HS0
  clear HS0
  intro HS0
  refine wpAnyH_take (i := 15) (v := ?_) rfl (by kernel_rfl) (by kernel_rfl) (by kernel_rfl) (fun _ _ _ h => h) (Or.inl ⟨by rfl, ?_⟩) HS0 ?_
  rotate_left
  · intro W hW; (try dsimp only at hW); go_simp; try (with_reducible rfl)
  (try simp only [List.getElem_toArray, List.getElem_cons_succ, List.getElem_cons_zero, Act.put, List.setIfInBounds_toArray, List.set_cons_zero, List.set_cons_succ])
  refine wpAnyH_done (by kernel_rfl) ?_ _
  simp only [LastQ]
  have HF := Lib.hid (fun W (hf : Fr (fun i => i = w.heap.size + 1 + 1) w9 W) => jf_ret (HX0.out.on HS0.1) (jf_mk (b := !(ba == bb)) (hn8.on hb9) hn9) (below_next HST0.out.below HS0.1) (by omega) hf)
  obtain ⟨k0, k1, k2, z0, z1, z2, hlt⟩ := (HX0.out.on HS0.1).facts
  clear HS0 HSP hb8 hb9 hn8 hn9
  go_simp
  go_wp2
  refine bodyPost_ret (v := .agg #[.bool (!(ba == bb)), .slice A8 l8.length c8, .slice A9 l9.length c9]) (by simp [results, Tryz.results73, go_sem, k0, k1, k2]) rfl ⟨_, rfl, HF.out _ (fr3 _ _ _)⟩

end Go.Proofs.YtpmnhdgajkickaaGreatDoor

/- Package judge: fractions as rational numbers: plus, opposite, times, over, lowest, compare, ratio. -/
namespace Go.Proofs.YtpmnhdgajkickaaGreatDoor
open Go Go.RowKit Go.Proofs

/-- a value that is a fraction with the value q, its parts below W64^n -/
def JQ (w : World) (v : Value) (q : Rat) (n : Nat) : Prop := ∃ b x y, JF w v b x y ∧ mkRat (sg b x) y = q ∧ x < W64 ^ n ∧ y < W64 ^ n ∧ 0 < y
theorem JQ.on {w w' : World} {v : Value} {q : Rat} {n : Nat} (h : JQ w v q n) (hb : Below w.heap.size w w') : JQ w' v q n := by
  obtain ⟨b, x, y, h1, h2⟩ := h
  exact ⟨b, x, y, h1.on hb, h2⟩
theorem W64_mono {x n m : Nat} (h : x < W64 ^ n) (hm : n ≤ m) : x < W64 ^ m := Nat.lt_of_lt_of_le h (Nat.pow_le_pow_right (by unfold W64; omega) hm)
theorem JQ.mono {w : World} {v : Value} {q : Rat} {n m : Nat} (h : JQ w v q n) (hm : n ≤ m) : JQ w v q m := by
  obtain ⟨b, x, y, h1, h2, h3, h4, h5⟩ := h
  exact ⟨b, x, y, h1, h2, W64_mono h3 hm, W64_mono h4 hm, h5⟩
theorem JQ.shape {w : World} {v : Value} {q : Rat} {n : Nat} (h : JQ w v q n) : ∃ b A1 c1 l1 A2 c2 l2, v = .agg #[.bool b, .slice A1 (l1 : List Nat).length c1, .slice A2 (l2 : List Nat).length c2] := by
  obtain ⟨b, x, y, ⟨A1, c1, l1, A2, c2, l2, h1, _⟩, _⟩ := h
  exact ⟨b, A1, c1, l1, A2, c2, l2, h1⟩
theorem JQ.of {w : World} {v : Value} {q : Rat} {n : Nat} (h : JF w v (frS q) (frN q) q.den) (h1 : frN q < W64 ^ n) (h2 : q.den < W64 ^ n) : JQ w v q n := ⟨_, _, _, h, fr_eq q, h1, h2, q.den_pos⟩
def JQPost (q : Rat) (n : Nat) (w : World) (e : Ending) (w' : World) : Prop := ∃ v, e = .returned v ∧ JQ w' v q n ∧ Below w.heap.size w w'
theorem W64_mul {a b s t : Nat} (h1 : a < W64 ^ s) (h2 : b < W64 ^ t) : a * b < W64 ^ (s + t) := by rw [Nat.pow_add]; exact Nat.mul_lt_mul'' h1 h2
theorem pl_lt2 {b1 b2 : Bool} {x1 y1 x2 y2 n m : Nat} (hx1 : x1 < W64 ^ n) (hy1 : y1 < W64 ^ n) (hx2 : x2 < W64 ^ m) (hy2 : y2 < W64 ^ m) : plX b1 x1 y1 b2 x2 y2 < W64 ^ (n + m + 1) := by
  have h1 : x1 * y2 < W64 ^ (n + m) := W64_mul hx1 hy2
  have h2 : x2 * y1 < W64 ^ (n + m) := by rw [Nat.mul_comm]; exact W64_mul hy1 hx2
  rw [Nat.pow_succ]
  generalize W64 ^ (n + m) = P at *
  have hP : P * 2 ≤ P * W64 := Nat.mul_le_mul_left _ (by unfold W64; omega)
  unfold plX
  split
  · omega
  · split <;> omega
theorem jPlusQ (n m : Nat) (u v : Value) (p q : Rat) (w : World) (hn : n ≤ 200000) (hm : m ≤ 200000) (hu : JQ w u p n) (hv : JQ w v q m) : Calls Tryz.prog 99 #[u, v] w (JQPost (p + q) (n + m + 1) w) := by
  obtain ⟨b1, x1, y1, h1, e1, g1, k1, p1⟩ := hu
  obtain ⟨b2, x2, y2, h2, e2, g2, k2, p2⟩ := hv
  refine (jPlus_any (n + m) u v b1 b2 x1 y1 x2 y2 w (by omega) h1 h2 (W64_mono g1 (by omega)) (W64_mono k1 (by omega)) (W64_mono g2 (by omega)) (W64_mono k2 (by omega))).mono fun e w' ⟨z, he, hz, hb⟩ => ⟨z, he, ⟨_, _, _, hz, ?_, pl_lt2 g1 k1 g2 k2, W64_mono (W64_mul k1 k2) (by omega), Nat.mul_pos p1 p2⟩, hb⟩
  rw [pl_eq _ _ _ _ p1 p2, e1, e2]
theorem jOppQ (n : Nat) (u : Value) (p : Rat) (w : World) (hu : JQ w u p n) : Calls Tryz.prog 76 #[u] w (JQPost (-p) n w) := by
  obtain ⟨b1, x1, y1, h1, e1, g1, k1, p1⟩ := hu
  refine (jOpp_any u b1 x1 y1 w h1).mono fun e w' ⟨z, he, hz, hb⟩ => ⟨z, he, ⟨_, _, _, hz, ?_, g1, k1, p1⟩, hb⟩
  rw [opp_eq, e1]
theorem jTimesQ (n m : Nat) (u v : Value) (p q : Rat) (w : World) (hn : n ≤ 200000) (hm : m ≤ 200000) (hu : JQ w u p n) (hv : JQ w v q m) : Calls Tryz.prog 75 #[u, v] w (JQPost (p * q) (n + m) w) := by
  obtain ⟨b1, x1, y1, h1, e1, g1, k1, p1⟩ := hu
  obtain ⟨b2, x2, y2, h2, e2, g2, k2, p2⟩ := hv
  refine (jTimes_any (n + m) u v b1 b2 x1 y1 x2 y2 w (by omega) h1 h2 (W64_mono g1 (by omega)) (W64_mono k1 (by omega)) (W64_mono g2 (by omega)) (W64_mono k2 (by omega))).mono fun e w' ⟨z, he, hz, hb⟩ => ⟨z, he, ⟨_, _, _, hz, ?_, W64_mul g1 g2, W64_mul k1 k2, Nat.mul_pos p1 p2⟩, hb⟩
  rw [tm_eq, e1, e2]
theorem jOverQ (n m : Nat) (u v : Value) (p q : Rat) (w : World) (hn : n ≤ 200000) (hm : m ≤ 200000) (hu : JQ w u p n) (hv : JQ w v q m) (hq : q ≠ 0) : Calls Tryz.prog 73 #[u, v] w (JQPost (p / q) (n + m) w) := by
  obtain ⟨b1, x1, y1, h1, e1, g1, k1, p1⟩ := hu
  obtain ⟨b2, x2, y2, h2, e2, g2, k2, p2⟩ := hv
  have hx2 : 0 < x2 := by
    rcases Nat.eq_zero_or_pos x2 with h0 | h0
    · subst h0
      rw [low_zero] at e2
      exact absurd e2.symm hq
    · exact h0
  refine (jOver_any (n + m) u v b1 b2 x1 y1 x2 y2 w (by omega) h1 h2 (W64_mono g1 (by omega)) (W64_mono k1 (by omega)) (W64_mono g2 (by omega)) (W64_mono k2 (by omega))).mono fun e w' ⟨z, he, hz, hb⟩ => ⟨z, he, ⟨_, _, _, hz, ?_, W64_mul g1 k2, W64_mul k1 g2, Nat.mul_pos p1 hx2⟩, hb⟩
  rw [ov_eq _ _ _ hx2 p2, e1, e2]
theorem jLowestQ (n : Nat) (u : Value) (p : Rat) (w : World) (hn : n ≤ 900000) (hu : JQ w u p n) : Calls Tryz.prog 81 #[u] w (JFPost (frS p) (frN p) p.den w) := by
  obtain ⟨b1, x1, y1, h1, e1, g1, k1, p1⟩ := hu
  have := jLowest_any u b1 x1 y1 n w h1 g1 k1 hn p1
  rw [e1] at this
  exact this
theorem jCompareQ (n m : Nat) (u v : Value) (p q : Rat) (w : World) (hn : n ≤ 200000) (hm : m ≤ 200000) (hu : JQ w u p n) (hv : JQ w v q m) : Calls Tryz.prog 64 #[u, v] w fun e w' => e = .returned (.int .i64 (ordQ p q)) ∧ Below w.heap.size w w' := by
  obtain ⟨b1, x1, y1, h1, e1, g1, k1, p1⟩ := hu
  obtain ⟨b2, x2, y2, h2, e2, g2, k2, p2⟩ := hv
  have := jCompare_any (n + m) u v b1 b2 x1 y1 x2 y2 w (by omega) h1 h2 (W64_mono g1 (by omega)) (W64_mono k1 (by omega)) (W64_mono g2 (by omega)) (W64_mono k2 (by omega)) p1 p2
  rw [e1, e2] at this
  exact this
theorem jRatioQ (n : Nat) (u : Value) (p : Rat) (w : World) (hn : n ≤ 1000) (hu : JQ w u p n) (htab : Tab w.heap.size w) : Calls Tryz.prog 47 #[u] w fun e w' => e = .returned (.tuple #[ratOf (rtT p), .int .i64 (rtC p)]) ∧ Below w.heap.size w w' := by
  obtain ⟨b1, x1, y1, h1, e1, g1, k1, p1⟩ := hu
  have := jRatio_any u b1 x1 y1 n w h1 g1 k1 hn p1 htab
  rw [e1] at this
  exact this
theorem jWholeQ (k : Int) (w : World) (h0 : -9223372036854775807 ≤ k) (h1 : k ≤ 9223372036854775807) : Calls Tryz.prog 65 #[.int .i64 k] w (JQPost (k : Rat) 1 w) := by
  refine (jWhole_any k w h0 h1).mono fun e w' ⟨z, he, hz, hb⟩ => ⟨z, he, ⟨_, _, _, hz, ?_, W64_gt _ (by omega), W64_gt _ (by omega), by omega⟩, hb⟩
  rw [sg_self]
  exact Rat.mkRat_self (k : Rat)

/-- box B holds a fraction with the value p -/
def JVQ (w : World) (B : Nat) (p : Rat) (n : Nat) : Prop := ∃ b A1 c1 l1 A2 c2 l2, w.heap[B]? = some (.cells #[.bool b, .slice A1 (l1 : List Nat).length c1, .slice A2 (l2 : List Nat).length c2] 53 (0, 0)) ∧ JQ w (.agg #[.bool b, .slice A1 l1.length c1, .slice A2 l2.length c2]) p n
theorem JVQ.on {w w' : World} {B : Nat} {p : Rat} {n : Nat} (h : JVQ w B p n) (hb : Below w.heap.size w w') : JVQ w' B p n := by
  obtain ⟨b, A1, c1, l1, A2, c2, l2, e, h1⟩ := h
  exact ⟨b, A1, c1, l1, A2, c2, l2, (hb.block B (heap_lt e)).trans e, h1.on hb⟩
theorem JVQ.lt {w : World} {B : Nat} {p : Rat} {n : Nat} (h : JVQ w B p n) : B < w.heap.size := by
  obtain ⟨b, A1, c1, l1, A2, c2, l2, e, h1⟩ := h
  exact heap_lt e
/-- what lies in such a box, as a value -/
theorem JVQ.get {w : World} {B : Nat} {p : Rat} {n : Nat} (h : JVQ w B p n) : ∃ b A1 c1 l1 A2 c2 l2, (∀ W, Below w.heap.size w W → W.cell? ⟨B, 0, none⟩ = some (.bool b) ∧ W.cell? ⟨B, 1, none⟩ = some (.slice A1 (l1 : List Nat).length c1) ∧ W.cell? ⟨B, 2, none⟩ = some (.slice A2 (l2 : List Nat).length c2) ∧ W.frozen? ⟨B, 0, none⟩ = false ∧ W.frozen? ⟨B, 1, none⟩ = false ∧ W.frozen? ⟨B, 2, none⟩ = false ∧ B < W.heap.size) ∧ JQ w (.agg #[.bool b, .slice A1 l1.length c1, .slice A2 l2.length c2]) p n := by
  obtain ⟨b, A1, c1, l1, A2, c2, l2, e, h1⟩ := h
  refine ⟨b, A1, c1, l1, A2, c2, l2, fun W hW => ?_, h1⟩
  have e' := (hW.block B (heap_lt e)).trans e
  exact ⟨by rw [cellsAt e']; rfl, by rw [cellsAt e']; rfl, by rw [cellsAt e']; rfl, frozenAt e' 0, frozenAt e' 1, frozenAt e' 2, heap_lt e'⟩
/-- a value laid in a box of its own -/
theorem JVQ.laid {w : World} {b : Bool} {A1 A2 : Option Addr} {c1 c2 : Nat} {l1 l2 : List Nat} {p : Rat} {n : Nat} (h : JQ w (.agg #[.bool b, .slice A1 l1.length c1, .slice A2 l2.length c2]) p n) : JVQ (w.alloc (.cells #[.bool b, .slice A1 l1.length c1, .slice A2 l2.length c2] 53)) w.heap.size p n :=
  ⟨b, A1, c1, l1, A2, c2, l2, alloc_at _ _ _ rfl, h.on ((Below.refl _ w).alloc (Nat.le_refl _) _)⟩
/-- a value stored into a box -/
theorem JVQ.set {w : World} {B : Nat} {b b0 : Bool} {A1 A2 : Option Addr} {c1 c2 : Nat} {l1 l2 : List Nat} {B1 B2 : Option Addr} {d1 d2 e1 e2 : Nat} {p : Rat} {n : Nat} (hX : w.heap[B]? = some (.cells #[.bool b0, .slice B1 d1 e1, .slice B2 d2 e2] 53 (0, 0))) (h : JQ w (.agg #[.bool b, .slice A1 l1.length c1, .slice A2 l2.length c2]) p n) :
    JVQ (((w.setCell ⟨B, 0, none⟩ (.bool b)).setCell ⟨B, 1, none⟩ (.slice A1 l1.length c1)).setCell ⟨B, 2, none⟩ (.slice A2 l2.length c2)) B p n := by
  obtain ⟨s, x, y, ⟨A3, c3, l3, A4, c4, l4, e, h1, h2⟩, h3⟩ := h
  simp only [Value.agg.injEq, Array.mk.injEq, List.cons.injEq, Value.bool.injEq, Value.slice.injEq, and_true] at e
  obtain ⟨rfl, ⟨rfl, g1, rfl⟩, ⟨rfl, g2, rfl⟩⟩ := e
  rw [g1, g2]
  obtain ⟨A5, c5, l5, A6, c6, l6, e5, h5, h6⟩ := jvar_set (b := b) hX (fun z => ⟨by simp, by simp, by simp⟩) h1 h2
  exact ⟨b, A5, c5, l5, A6, c6, l6, e5, b, x, y, ⟨A5, c5, l5, A6, c6, l6, rfl, h5, h6⟩, h3⟩
/-- stored into the box of the result -/
theorem jq_ret {w0 w W : World} {B : Nat} {v : Value} {p : Rat} {n : Nat} (hB : JBox w B) (h : JQ w v p n) (hbl : Below w0.heap.size w0 w) (h0 : w0.heap.size ≤ B) (hf : Fr (fun i => i = B) w W) : JQ W v p n ∧ Below w0.heap.size w0 W := by
  obtain ⟨s, x, y, h1, h2⟩ := h
  have := jf_ret hB h1 hbl h0 hf
  exact ⟨⟨s, x, y, this.1, h2⟩, this.2⟩
end Go.Proofs.YtpmnhdgajkickaaGreatDoor

/- Package judge: the sum of two fractions. -/
namespace Go.Proofs.YtpmnhdgajkickaaGreatDoor
open Go Go.RowKit Go.Proofs

/-- an array of two fractions in memory -/
def JTwo (w : World) (B : Nat) (p q : Rat) (n m : Nat) : Prop := ∃ b1 A1 c1 l1 A2 c2 l2 b2 A3 c3 l3 A4 c4 l4 t, w.heap[B]? = some (.cells #[.bool b1, .slice A1 (l1 : List Nat).length c1, .slice A2 (l2 : List Nat).length c2, .bool b2, .slice A3 (l3 : List Nat).length c3, .slice A4 (l4 : List Nat).length c4] t (0, 0)) ∧ JQ w (.agg #[.bool b1, .slice A1 l1.length c1, .slice A2 l2.length c2]) p n ∧ JQ w (.agg #[.bool b2, .slice A3 l3.length c3, .slice A4 l4.length c4]) q m
theorem JTwo.on {w w' : World} {B n m : Nat} {p q : Rat} (h : JTwo w B p q n m) (hb : Below w.heap.size w w') : JTwo w' B p q n m := by
  obtain ⟨b1, A1, c1, l1, A2, c2, l2, b2, A3, c3, l3, A4, c4, l4, t, e, h1, h2⟩ := h
  exact ⟨b1, A1, c1, l1, A2, c2, l2, b2, A3, c3, l3, A4, c4, l4, t, (hb.block B (heap_lt e)).trans e, h1.on hb, h2.on hb⟩
set_option maxHeartbeats 8000000 in
set_option maxRecDepth 100000 in
theorem jSum_any (B n m : Nat) (p q : Rat) (w : World) (hn : n ≤ 90000) (hm : m ≤ 90000) (h : JTwo w B p q n m) : Calls Tryz.prog 74 #[.slice (some ⟨B, 0, none⟩) 2 2] w (JQPost (p + q) (n + m + 3) w) := by
  obtain ⟨b1, A1, c1, l1, A2, c2, l2, b2, A3, c3, l3, A4, c4, l4, t, hB, hp, hq⟩ := h
  obtain ⟨W0, hW0⟩ : ∃ W0, W0 = w.alloc (.cells #[.bool false, .slice none 0 0, .slice none 0 0] 53) := ⟨_, rfl⟩
  have hb0 : Below w.heap.size w W0 := by rw [hW0]; exact (Below.refl _ w).alloc (Nat.le_refl _) _
  have HX0 := Lib.hid (show JBox W0 w.heap.size by rw [hW0]; exact alloc_at _ _ _ rfl)
  have hs0 : W0.heap.size = w.heap.size + 1 := by rw [hW0]; simp
  have HW := Lib.hid (fun W => jWholeQ 0 W (by omega) (by omega))
  have HP := Lib.hid (fun W (hb : Below W0.heap.size W0 W) => hp.on (below_next hb0 hb))
  have HQ := Lib.hid (fun W (hb : Below W0.heap.size W0 W) => hq.on (below_next hb0 hb))
  have HF := Lib.hid (show ∀ W, Below W0.heap.size W0 W → W.cell? ⟨B, 0, none⟩ = some (.bool b1) ∧ W.cell? ⟨B, 1, none⟩ = some (.slice A1 l1.length c1) ∧ W.cell? ⟨B, 2, none⟩ = some (.slice A2 l2.length c2) ∧ W.cell? ⟨B, 3, none⟩ = some (.bool b2) ∧ W.cell? ⟨B, 4, none⟩ = some (.slice A3 l3.length c3) ∧ W.cell? ⟨B, 5, none⟩ = some (.slice A4 l4.length c4) from fun W hW => by
    have e := ((below_next hb0 hW).block B (heap_lt hB)).trans hB
    exact ⟨by rw [cellsAt e]; rfl, by rw [cellsAt e]; rfl, by rw [cellsAt e]; rfl, by rw [cellsAt e]; rfl, by rw [cellsAt e]; rfl, by rw [cellsAt e]; rfl⟩)
  have HB0 := Lib.hid hb0
  clear hp hq hB hb0
  go_enter Tryz.func74, Tryz.ntmps74
  go_wp2_with fail
  rw [← hW0]
  clear hW0
  (with_reducible refine (HW.out _).mono ?_)
  rintro e w1 ⟨v1, rfl, hv1, hb1⟩
  obtain ⟨bz, Z1, d1, k1, Z2, d2, k2, rfl⟩ := hv1.shape
  have hvar := JVQ.laid hv1
  obtain ⟨W2, hW2⟩ : ∃ W2, W2 = w1.alloc (.cells #[.bool bz, .slice Z1 k1.length d1, .slice Z2 k2.length d2] 53) := ⟨_, rfl⟩
  rw [← hW2] at hvar
  have HVAR := Lib.hid hvar
  have HB2 := Lib.hid (show Below W0.heap.size W0 W2 by rw [hW2]; exact hb1.alloc hb1.size _)
  have hle1 := hb1.size
  clear hv1 hb1 hvar
  go_wp2
  rw [← hW2]
  clear hW2
  go_loopw [9] (fun kv wr => ∃ i : Nat, kv = .int .i64 (i : Nat) ∧ (i = 0 ∧ JVQ wr w1.heap.size ((0 : Int) : Rat) 1 ∨ i = 1 ∧ JVQ wr w1.heap.size (((0 : Int) : Rat) + p) (1 + n + 1) ∨ i = 2 ∧ JVQ wr w1.heap.size (((0 : Int) : Rat) + p + q) (1 + n + 1 + m + 1)) ∧ Below W0.heap.size W0 wr) (fun kv _ => 2 - (intOf kv).toNat)
  case atStart => exact ⟨0, rfl, .inl ⟨rfl, HVAR.out⟩, HB2.out⟩
  case round =>
    obtain ⟨i, rfl, hcase, hbw⟩ := hrel
    rcases hcase with ⟨rfl, hvar⟩ | ⟨rfl, hvar⟩ | ⟨rfl, hvar⟩
    · obtain ⟨bo, D1, e1, m1, D2, e2, m2, hget, hjo⟩ := hvar.get
      have HJO := Lib.hid hjo
      have HG := Lib.hid hget
      have HBW := Lib.hid hbw
      have HV0 := Lib.hid (hjo.on ((Below.refl _ wr).alloc (Nat.le_refl _) (.cells #[.bool b1, .slice A1 l1.length c1, .slice A2 l2.length c2] 53)))
      have HV1 := Lib.hid ((HP.out wr hbw).on ((Below.refl _ wr).alloc (Nat.le_refl _) (.cells #[.bool b1, .slice A1 l1.length c1, .slice A2 l2.length c2] 53)))
      obtain ⟨g0, g1, g2, z0, z1, z2, hlt1⟩ := hget wr (Below.refl _ _)
      obtain ⟨f0, f1, f2, f3, f4, f5⟩ := HF.out wr hbw
      obtain ⟨W3, hW3⟩ : ∃ W3, W3 = wr.alloc (.cells #[.bool b1, .slice A1 l1.length c1, .slice A2 l2.length c2] 53) := ⟨_, rfl⟩
      have hb3 : Below wr.heap.size wr W3 := by rw [hW3]; exact (Below.refl _ wr).alloc (Nat.le_refl _) _
      have o3 := (hget W3 hb3)
      have HB3 := Lib.hid hb3
      have HVW := Lib.hid hvar
      rw [← hW3] at HV0 HV1
      obtain ⟨o0, o1, o2, -, -, -, -⟩ := o3
      rw [hW3] at o0 o1 o2
      clear hvar hget hjo hbw hb3
      go_wp2_with fail
      rw [← hW3]
      clear hW3 o0 o1 o2
      (with_reducible refine (jPlusQ 1 n _ _ _ _ _ (by omega) (by omega) HV0.out HV1.out).mono ?_)
      rintro e w5 ⟨v5, rfl, hv5, hb5⟩
      obtain ⟨b5, A5, c5, l5, A6, c6, l6, rfl⟩ := hv5.shape
      have hb35 := below_next HB3.out hb5
      obtain ⟨g0, g1, g2, z0, z1, z2, hlt1⟩ := HG.out w5 hb35
      obtain ⟨bY, Y1, y1, t1, Y2, y2, t2, eX, -⟩ := HVW.out.on hb35
      have HS5 := Lib.hid (JVQ.set eX hv5)
      have HBN := Lib.hid ((((below_next HBW.out hb35).setCell (p := ⟨w1.heap.size, 0, none⟩) hle1 (.bool b5)).setCell (p := ⟨w1.heap.size, 1, none⟩) hle1 (.slice A5 l5.length c5)).setCell (p := ⟨w1.heap.size, 2, none⟩) hle1 (.slice A6 l6.length c6))
      clear hv5 hb5 hb35 eX HVW HV0 HV1 f0 f1 f2 f3 f4 f5
      go_wp2
      go_roundw
      case rel => exact ⟨_, by go_num, .inr (.inl ⟨rfl, HS5.out⟩), HBN.out⟩
      case measure => simp [intOf]
    · obtain ⟨bo, D1, e1, m1, D2, e2, m2, hget, hjo⟩ := hvar.get
      have HJO := Lib.hid hjo
      have HG := Lib.hid hget
      have HBW := Lib.hid hbw
      have HV0 := Lib.hid (hjo.on ((Below.refl _ wr).alloc (Nat.le_refl _) (.cells #[.bool b2, .slice A3 l3.length c3, .slice A4 l4.length c4] 53)))
      have HV1 := Lib.hid ((HQ.out wr hbw).on ((Below.refl _ wr).alloc (Nat.le_refl _) (.cells #[.bool b2, .slice A3 l3.length c3, .slice A4 l4.length c4] 53)))
      obtain ⟨g0, g1, g2, z0, z1, z2, hlt1⟩ := hget wr (Below.refl _ _)
      obtain ⟨f0, f1, f2, f3, f4, f5⟩ := HF.out wr hbw
      obtain ⟨W3, hW3⟩ : ∃ W3, W3 = wr.alloc (.cells #[.bool b2, .slice A3 l3.length c3, .slice A4 l4.length c4] 53) := ⟨_, rfl⟩
      have hb3 : Below wr.heap.size wr W3 := by rw [hW3]; exact (Below.refl _ wr).alloc (Nat.le_refl _) _
      have o3 := (hget W3 hb3)
      have HB3 := Lib.hid hb3
      have HVW := Lib.hid hvar
      rw [← hW3] at HV0 HV1
      obtain ⟨o0, o1, o2, -, -, -, -⟩ := o3
      rw [hW3] at o0 o1 o2
      clear hvar hget hjo hbw hb3
      go_wp2_with fail
      rw [← hW3]
      clear hW3 o0 o1 o2
      (with_reducible refine (jPlusQ (1 + n + 1) m _ _ _ _ _ (by omega) (by omega) HV0.out HV1.out).mono ?_)
      rintro e w5 ⟨v5, rfl, hv5, hb5⟩
      obtain ⟨b5, A5, c5, l5, A6, c6, l6, rfl⟩ := hv5.shape
      have hb35 := below_next HB3.out hb5
      obtain ⟨g0, g1, g2, z0, z1, z2, hlt1⟩ := HG.out w5 hb35
      obtain ⟨bY, Y1, y1, t1, Y2, y2, t2, eX, -⟩ := HVW.out.on hb35
      have HS5 := Lib.hid (JVQ.set eX hv5)
      have HBN := Lib.hid ((((below_next HBW.out hb35).setCell (p := ⟨w1.heap.size, 0, none⟩) hle1 (.bool b5)).setCell (p := ⟨w1.heap.size, 1, none⟩) hle1 (.slice A5 l5.length c5)).setCell (p := ⟨w1.heap.size, 2, none⟩) hle1 (.slice A6 l6.length c6))
      clear hv5 hb5 hb35 eX HVW HV0 HV1 f0 f1 f2 f3 f4 f5
      go_wp2
      go_roundw
      case rel => exact ⟨_, by go_num, .inr (.inr ⟨rfl, HS5.out⟩), HBN.out⟩
      case measure => simp [intOf]
    · obtain ⟨bo, D1, e1, m1, D2, e2, m2, hget, hjo⟩ := hvar.get
      obtain ⟨g0, g1, g2, z0, z1, z2, hlt1⟩ := hget wr (Below.refl _ _)
      obtain ⟨k0, k1, k2, q0, q1, q2, hlt⟩ := (HX0.out.on hbw).facts
      have HFN := Lib.hid (jq_ret (HX0.out.on hbw) hjo (below_next HB0.out hbw) (Nat.le_refl _) (fr3 (w := wr) (B := w.heap.size) (.bool bo) (.slice D1 m1.length e1) (.slice D2 m2.length e2)))
      have HSZ := Lib.hid (show ((0 : Int) : Rat) + p + q = p + q by rw [show ((0 : Int) : Rat) = 0 from rfl, Rat.zero_add])
      have HSN := Lib.hid (show 1 + n + 1 + m + 1 = n + m + 3 by omega)
      clear hvar hget hjo hbw
      go_wp2
      refine bodyPost_ret (v := .agg #[.bool bo, .slice D1 m1.length e1, .slice D2 m2.length e2]) (by simp [results, Tryz.results74, go_sem, k0, k1, k2]) rfl ⟨_, rfl, by rw [← HSZ.out, ← HSN.out]; exact HFN.out.1, HFN.out.2⟩
end Go.Proofs.YtpmnhdgajkickaaGreatDoor
