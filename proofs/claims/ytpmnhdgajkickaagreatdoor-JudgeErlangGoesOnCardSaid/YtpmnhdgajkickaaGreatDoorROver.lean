/- Package dynamometerref0: Over. Printed by gen_rover.py out of Times. -/
import Derived.Test.YtpmnhdgajkickaaGreatDoorB11
import Derived.Test.YtpmnhdgajkickaaGreatDoorOvMath
namespace Go.Proofs.YtpmnhdgajkickaaGreatDoor
open Go Go.RowKit Go.Proofs
set_option maxHeartbeats 4000000 in
set_option maxRecDepth 100000 in
theorem rOver_any (n : Nat) (u v : Value) (a b : Rat) (w : World) (hn : n ≤ 400000) (ha : FracR w u a) (hb : FracR w v b) (hsa : Sz n a) (hsb : Sz n b) (hb0 : b ≠ 0) :
    Calls Tryz.prog 16 #[u, v] w (FracPost (a / b) w) := by
  obtain ⟨A1, c1, l1, A2, c2, l2, rfl, ha1, ha2⟩ := ha
  obtain ⟨A3, c3, l3, A4, c4, l4, rfl, hb1, hb2⟩ := hb
  have la1 := ha1.len hsa.1
  have la2 := ha2.len hsa.2
  have lb1 := hb1.len hsb.1
  have lb2 := hb2.len hsb.2
  obtain ⟨W0, hW0⟩ : ∃ W0, W0 = ((w.alloc (.cells #[.bool (frS a), .slice A1 l1.length c1, .slice A2 l2.length c2] 35)).alloc (.cells #[.bool (frS b), .slice A3 l3.length c3, .slice A4 l4.length c4] 35)).alloc (.cells #[.bool false, .slice none 0 0, .slice none 0 0] 35) := ⟨_, rfl⟩
  have HST0 := Lib.hid (show St w W0 [(w.heap.size, .cells #[.bool (frS a), .slice A1 l1.length c1, .slice A2 l2.length c2] 35 (0, 0)), (w.heap.size + 1, .cells #[.bool (frS b), .slice A3 l3.length c3, .slice A4 l4.length c4] 35 (0, 0)), (w.heap.size + 1 + 1, .cells #[.bool false, .slice none 0 0, .slice none 0 0] 35 (0, 0))] by rw [hW0]; exact (((St.start w).alloc _ _ rfl).alloc _ _ (by simp)).alloc _ _ (by simp))
  have hs0 : W0.heap.size = w.heap.size + 3 := by rw [hW0]; simp
  have HX0 := Lib.hid (show FBox W0 (w.heap.size + 1 + 1) from HST0.out.at 2 rfl)
  have HA1 := Lib.hid (ha1.on HST0.out.below)
  have HA2 := Lib.hid (ha2.on HST0.out.below)
  have HA3 := Lib.hid (hb1.on HST0.out.below)
  have HA4 := Lib.hid (hb2.on HST0.out.below)
  have HM1 := Lib.hid (fun W (hb : Below W0.heap.size W0 W) => rnatMul_any A1 A4 c1 c4 l1 l4 _ _ W (HA1.out.on hb) (HA4.out.on hb) (by omega) (by omega))
  have HM2 := Lib.hid (fun W (hb : Below W0.heap.size W0 W) => rnatMul_any A2 A3 c2 c3 l2 l3 _ _ W (HA2.out.on hb) (HA3.out.on hb) (by omega) (by omega))
  have hd : 0 < a.den * frN b := Nat.mul_pos a.den_pos (fr_ne hb0)
  have HL := Lib.hid (fun W A5 c5 l5 A6 c6 l6 (h5 : RNatR W A5 c5 l5 (frN a * b.den)) (h6 : RNatR W A6 c6 l6 (a.den * frN b)) => rLowest_any (!(frS a == frS b)) A5 A6 c5 c6 l5 l6 _ _ W h5 h6 (by have := h5.len (n := n + n) (by rw [Nat.pow_add]; exact Nat.mul_lt_mul'' hsa.1 hsb.2); omega) (by have := h6.len (n := n + n) (by rw [Nat.pow_add]; exact Nat.mul_lt_mul'' hsa.2 hsb.1); omega) hd)
  rw [show mkRat (sg (!(frS a == frS b)) (frN a * b.den)) (a.den * frN b) = a / b from over_eq hb0] at HL
  clear ha1 ha2 hb1 hb2 hd hsa hsb hb0
  go_enter Tryz.func16, Tryz.ntmps16
  go_wp2_with fail
  rw [← hW0]
  clear hW0
  have HB := Lib.hid (Below.refl W0.heap.size W0)
  have HKS := Lib.hid (show ∀ X, Below W0.heap.size W0 X → (fun X => Below W0.heap.size W0 X ∧ X.cell? ⟨w.heap.size, 0, none⟩ = some (.bool (frS a)) ∧ X.cell? ⟨w.heap.size, 1, none⟩ = some (.slice A1 l1.length c1) ∧ X.cell? ⟨w.heap.size, 2, none⟩ = some (.slice A2 l2.length c2) ∧ X.cell? ⟨w.heap.size + 1, 0, none⟩ = some (.bool (frS b)) ∧ X.cell? ⟨w.heap.size + 1, 1, none⟩ = some (.slice A3 l3.length c3) ∧ X.cell? ⟨w.heap.size + 1, 2, none⟩ = some (.slice A4 l4.length c4)) X from fun X hX => ⟨hX, (HST0.out.call (below_next HB.out hX)).cell 0 0 rfl rfl, (HST0.out.call (below_next HB.out hX)).cell 0 1 rfl rfl, (HST0.out.call (below_next HB.out hX)).cell 0 2 rfl rfl, (HST0.out.call (below_next HB.out hX)).cell 1 0 rfl rfl, (HST0.out.call (below_next HB.out hX)).cell 1 1 rfl rfl, (HST0.out.call (below_next HB.out hX)).cell 1 2 rfl rfl⟩)
  refine wp_region_last (init := #[_, _, _, _, _, _, _, _, _, _, _, _, _, _, _, _]) (last := _) rfl (by kernel_rfl) (by kernel_rfl) (by kernel_rfl) ?_
  show wpAny _ _ _ _ 16 (Array.replicate 16 false) _ _
  refine wpAny_of_held (S := (fun X => Below W0.heap.size W0 X ∧ X.cell? ⟨w.heap.size, 0, none⟩ = some (.bool (frS a)) ∧ X.cell? ⟨w.heap.size, 1, none⟩ = some (.slice A1 l1.length c1) ∧ X.cell? ⟨w.heap.size, 2, none⟩ = some (.slice A2 l2.length c2) ∧ X.cell? ⟨w.heap.size + 1, 0, none⟩ = some (.bool (frS b)) ∧ X.cell? ⟨w.heap.size + 1, 1, none⟩ = some (.slice A3 l3.length c3) ∧ X.cell? ⟨w.heap.size + 1, 2, none⟩ = some (.slice A4 l4.length c4))) _ _ _ _ ?_
  have HS0 := HKS.out _ (Below.refl _ W0).drew
  refine wpAnyH_take (i := 0) (v := ?_) rfl (by kernel_rfl) (by kernel_rfl) (by kernel_rfl) (fun _ _ _ h => h) (Or.inl ⟨by rfl, ?_⟩) HS0 ?_
  rotate_left
  · intro W hW; (try dsimp only at hW); go_simp; try (with_reducible rfl)
  (try simp only [List.getElem_toArray, List.getElem_cons_zero, Act.put, List.setIfInBounds_toArray, List.set_cons_zero, List.set_cons_succ])
  refine wpAnyH_take (i := 1) (v := ?_) rfl (by kernel_rfl) (by kernel_rfl) (by kernel_rfl) (fun _ _ _ h => h) (Or.inl ⟨by rfl, ?_⟩) HS0 ?_
  rotate_left
  · intro W hW; (try dsimp only at hW); go_simp; try (with_reducible rfl)
  (try simp only [List.getElem_toArray, List.getElem_cons_succ, List.getElem_cons_zero, Act.put, List.setIfInBounds_toArray, List.set_cons_zero, List.set_cons_succ])
  refine wpAnyH_take (i := 2) (v := ?_) rfl (by kernel_rfl) (by kernel_rfl) (by kernel_rfl) (fun _ _ _ h => h) (Or.inl ⟨by rfl, ?_⟩) HS0 ?_
  rotate_left
  · intro W hW; (try dsimp only at hW); go_simp; try (with_reducible rfl)
  (try simp only [List.getElem_toArray, List.getElem_cons_succ, List.getElem_cons_zero, Act.put, List.setIfInBounds_toArray, List.set_cons_zero, List.set_cons_succ])
  refine wpAnyH_take (i := 3) (v := ?_) rfl (by kernel_rfl) (by kernel_rfl) (by kernel_rfl) (fun _ _ _ h => h) (Or.inl ⟨by rfl, ?_⟩) HS0 ?_
  rotate_left
  · intro W hW; (try dsimp only at hW); go_simp; try (with_reducible rfl)
  (try simp only [List.getElem_toArray, List.getElem_cons_succ, List.getElem_cons_zero, Act.put, List.setIfInBounds_toArray, List.set_cons_zero, List.set_cons_succ])
  refine wpAnyH_take (i := 4) (v := ?_) rfl (by kernel_rfl) (by kernel_rfl) (by kernel_rfl) (fun _ _ _ h => h) (Or.inl ⟨by rfl, ?_⟩) HS0 ?_
  rotate_left
  · intro W hW; (try dsimp only at hW); go_simp; try (with_reducible rfl)
  (try simp only [List.getElem_toArray, List.getElem_cons_succ, List.getElem_cons_zero, Act.put, List.setIfInBounds_toArray, List.set_cons_zero, List.set_cons_succ])
  refine wpAnyH_take (i := 5) (v := ?_) rfl (by kernel_rfl) (by kernel_rfl) (by kernel_rfl) (fun _ _ _ h => h) (Or.inl ⟨by rfl, ?_⟩) HS0 ?_
  rotate_left
  · intro W hW; (try dsimp only at hW); go_simp; try (with_reducible rfl)
  (try simp only [List.getElem_toArray, List.getElem_cons_succ, List.getElem_cons_zero, Act.put, List.setIfInBounds_toArray, List.set_cons_zero, List.set_cons_succ])
  refine wpAnyH_take (i := 6) (v := ?_) rfl (by kernel_rfl) (by kernel_rfl) (by kernel_rfl) (fun _ _ _ h => h) (Or.inl ⟨by rfl, ?_⟩) HS0 ?_
  rotate_left
  · intro W hW; (try dsimp only at hW); go_simp; try (with_reducible rfl)
  (try simp only [List.getElem_toArray, List.getElem_cons_succ, List.getElem_cons_zero, Act.put, List.setIfInBounds_toArray, List.set_cons_zero, List.set_cons_succ])
  refine wpAnyH_take (i := 7) (v := ?_) rfl (by kernel_rfl) (by kernel_rfl) (by kernel_rfl) (fun _ _ _ h => h) (Or.inl ⟨by rfl, ?_⟩) HS0 ?_
  rotate_left
  · intro W hW; (try dsimp only at hW); go_simp; try (with_reducible rfl)
  (try simp only [List.getElem_toArray, List.getElem_cons_succ, List.getElem_cons_zero, Act.put, List.setIfInBounds_toArray, List.set_cons_zero, List.set_cons_succ])
  refine wpAnyH_take (i := 8) (v := ?_) rfl (by kernel_rfl) (by kernel_rfl) (by kernel_rfl) (fun _ _ _ h => h) (Or.inl ⟨by rfl, ?_⟩) HS0 ?_
  rotate_left
  · intro W hW; (try dsimp only at hW); go_simp; try (with_reducible rfl)
  (try simp only [List.getElem_toArray, List.getElem_cons_succ, List.getElem_cons_zero, Act.put, List.setIfInBounds_toArray, List.set_cons_zero, List.set_cons_succ])
  refine wpAnyH_take (i := 10) (v := ?_) rfl (by kernel_rfl) (by kernel_rfl) (by kernel_rfl) (fun _ _ _ h => h) (Or.inl ⟨by rfl, ?_⟩) HS0 ?_
  rotate_left
  · intro W hW; (try dsimp only at hW); go_simp; try (with_reducible rfl)
  (try simp only [List.getElem_toArray, List.getElem_cons_succ, List.getElem_cons_zero, Act.put, List.setIfInBounds_toArray, List.set_cons_zero, List.set_cons_succ])
  refine wpAnyH_take (i := 11) (v := ?_) rfl (by kernel_rfl) (by kernel_rfl) (by kernel_rfl) (fun _ _ _ h => h) (Or.inl ⟨by rfl, ?_⟩) HS0 ?_
  rotate_left
  · intro W hW; (try dsimp only at hW); go_simp; try (with_reducible rfl)
  (try simp only [List.getElem_toArray, List.getElem_cons_succ, List.getElem_cons_zero, Act.put, List.setIfInBounds_toArray, List.set_cons_zero, List.set_cons_succ])
  refine wpAnyH_take (i := 12) (v := ?_) rfl (by kernel_rfl) (by kernel_rfl) (by kernel_rfl) (fun _ _ _ h => h) (Or.inl ⟨by rfl, ?_⟩) HS0 ?_
  rotate_left
  · intro W hW; (try dsimp only at hW); go_simp; try (with_reducible rfl)
  (try simp only [List.getElem_toArray, List.getElem_cons_succ, List.getElem_cons_zero, Act.put, List.setIfInBounds_toArray, List.set_cons_zero, List.set_cons_succ])
  refine wpAnyH_take (i := 13) (v := ?_) rfl (by kernel_rfl) (by kernel_rfl) (by kernel_rfl) (fun _ _ _ h => h) (Or.inl ⟨by rfl, ?_⟩) HS0 ?_
  rotate_left
  · intro W hW; (try dsimp only at hW); go_simp; try (with_reducible rfl)
  (try simp only [List.getElem_toArray, List.getElem_cons_succ, List.getElem_cons_zero, Act.put, List.setIfInBounds_toArray, List.set_cons_zero, List.set_cons_succ])
  refine run_one (i := 9) (by kernel_rfl) rfl rfl ?_
  intro K hK
  go_simp
  refine (HM1.out _ HS0.1).mono ?_
  rintro e w5 ⟨A5, c5, l5, rfl, hn5, hb5⟩
  refine hK.out _ _ (HKS.out _ (below_next HS0.1 hb5)) ?_
  clear hK K
  have HSP := HS0
  clear HS0
  intro HS0
  refine run_one (i := 14) (by kernel_rfl) rfl rfl ?_
  intro K hK
  go_simp
  refine (HM2.out _ HS0.1).mono ?_
  rintro e w6 ⟨A6, c6, l6, rfl, hn6, hb6⟩
  refine hK.out _ _ (HKS.out _ (below_next HS0.1 hb6)) ?_
  clear hK K
  have HSP := HS0
  clear HS0
  intro HS0
  refine run_one (i := 15) (by kernel_rfl) rfl rfl ?_
  intro K hK
  go_simp
  refine (HL.out _ A5 c5 l5 A6 c6 l6 (hn5.on hb6) hn6).mono ?_
  rintro e w7 ⟨v7, rfl, hv7, hb7⟩
  refine hK.out _ _ (HKS.out _ (below_next HS0.1 hb7)) ?_
  clear hK K
  have HSP := HS0
  clear HS0
  intro HS0
  refine wpAnyH_done (by kernel_rfl) ?_ _
  simp only [LastQ]
  have HF := Lib.hid (fun W (hf : Fr (fun i => i = w.heap.size + 1 + 1) w7 W) => frac_ret2 (HX0.out.on HS0.1) hv7 (below_next HST0.out.below HS0.1) (by omega) hf)
  obtain ⟨k0, k1, k2, z0, z1, z2, hlt⟩ := (HX0.out.on HS0.1).facts
  obtain ⟨A8, c8, l8, A9, c9, l9, rfl, _, _⟩ := hv7
  clear HS0 hb5 hb6 hb7 hn5 hn6
  go_simp
  go_wp2
  refine bodyPost_ret (v := .agg #[.bool (frS (a / b)), .slice A8 l8.length c8, .slice A9 l9.length c9]) (by simp [results, Tryz.results16, go_sem, k0, k1, k2]) rfl ⟨_, rfl, HF.out _ (fr3 _ _ _)⟩

end Go.Proofs.YtpmnhdgajkickaaGreatDoor
