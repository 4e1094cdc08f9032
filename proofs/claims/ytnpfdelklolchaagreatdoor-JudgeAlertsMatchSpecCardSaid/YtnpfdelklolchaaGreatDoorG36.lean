import Derived.Test.YtnpfdelklolchaaGreatDoorG35
import Derived.Test.YtnpfdelklolchaaGreatDoorG18
import Derived.Test.YtnpfdelklolchaaGreatDoorG32
import Derived.Test.YtnpfdelklolchaaGreatDoorG14
import Derived.Test.YtnpfdelklolchaaGreatDoorG33
/- Changes: the cost as the law adds it up, and that the best division is the least one: plain. -/
namespace Go.Proofs.YtnpfdelklolchaaGreatDoor
open Go

theorem t4_5 {x : Nat} (h : x ≤ 10000000000000000) : x < T4 ^ 5 := Nat.lt_of_le_of_lt h (by unfold T4; decide +kernel)
theorem Val.up : ∀ {i j m : Nat} {r : List Nat}, Val i j r → j ≤ m → Val i m r
  | _, _, _, [], _, _ => trivial
  | i, j, m, k :: r, h, hm => ⟨h.1, by have := h.2.1; omega, Val.up h.2.2 hm⟩
end Go.Proofs.YtnpfdelklolchaaGreatDoor

/- The reference's burn. Printed by gen_rburn.py. -/
namespace Go.Proofs.YtnpfdelklolchaaGreatDoor
open Go Go.RowKit Go.Proofs

theorem brnQ_eq {g o bad all : Int} (h : all ≠ 0) (h1 : 0 < all) (h2 : g < o) : brnQ g o bad all = mkRat bad all.toNat * mkRat o (o - g).toNat := by
  unfold brnQ
  rw [if_neg h, Rat.mkRat_eq_div, Rat.mkRat_eq_div]
  have e1 : ((all.toNat : Int) : Rat) = (all : Rat) := by rw [Int.toNat_of_nonneg (by omega)]
  have e2 : (((o - g).toNat : Int) : Rat) = ((o - g : Int) : Rat) := by rw [Int.toNat_of_nonneg (by omega)]
  have e3 : ((all.toNat : Nat) : Rat) = ((all.toNat : Int) : Rat) := rfl
  have e4 : (((o - g).toNat : Nat) : Rat) = (((o - g).toNat : Int) : Rat) := rfl
  rw [e3, e4, e1, e2, Rat.intCast_mul, Rat.intCast_mul, Rat.div_def, Rat.div_def, Rat.div_def, Rat.inv_mul_rev]
  grind
set_option maxHeartbeats 8000000 in
set_option maxRecDepth 100000 in
theorem rburn_any (g o bad all : Int) (w : World) (hok : OkO g o) (r0 : 0 ≤ bad) (r1 : bad ≤ all) (r2 : all ≤ 1000000000000) :
    Calls Tryz.prog 59 #[.agg #[.int .i64 g, .int .i64 o], .int .i64 bad, .int .i64 all] w (FracPost (brnQ g o bad all) w) := by
  obtain ⟨g0, g1, g2⟩ : 0 ≤ g ∧ g < o ∧ o ≤ 1000000 := hok
  obtain ⟨W0, hW0⟩ : ∃ W0, W0 = (w.alloc (.cells #[.int .i64 g, .int .i64 o] 48)).alloc (.cells #[.bool false, .slice none 0 0, .slice none 0 0] 31) := ⟨_, rfl⟩
  have HB := Lib.hid (show Below w.heap.size w W0 by rw [hW0]; exact two_on _ _)
  have HX0 := Lib.hid (show FBox W0 (w.heap.size + 1) by rw [hW0]; exact alloc_at _ _ _ (by simp))
  have HO := Lib.hid (show W0.heap[w.heap.size]? = some (.cells #[.int .i64 g, .int .i64 o] 48 (0, 0)) by rw [hW0, Below.heap_alloc _ _ _ (by simp)]; exact alloc_at _ _ _ rfl)
  by_cases h0 : all = 0
  · have h0z : (all == 0) = true := by rw [beq_iff_eq]; exact h0
    have HQ := Lib.hid (show brnQ g o bad all = ((0 : Int) : Rat) by unfold brnQ; rw [if_pos h0]; rfl)
    have HW := Lib.hid (rWhole_any 0 W0 (by omega) (by omega))
    have h00 := h0
    clear h0
    go_enter Tryz.func59, Tryz.ntmps59
    go_wp2_with fail
    rw [← hW0]
    clear hW0
    (with_reducible refine (HW.out).mono ?_)
    rintro e w1 ⟨v1, rfl, hv1, hb1⟩
    obtain ⟨b7, E1, n1, o1, E2, n2, o2, rfl⟩ := hv1.shape
    have hfb := HX0.out.on hb1
    obtain ⟨k0, k1, k2, s0, s1, s2, hlt⟩ := hfb.facts
    rw [← HQ.out] at hv1
    have HFN := Lib.hid (fq_ret hfb hv1 (below_next HB.out hb1) (by omega) (fr3 (w := w1) (B := w.heap.size + 1) (.bool b7) (.slice E1 o1.length n1) (.slice E2 o2.length n2)))
    clear hv1 hfb hb1
    go_wp2
    refine bodyPost_ret (v := .agg #[.bool b7, .slice E1 o1.length n1, .slice E2 o2.length n2]) (by simp [results, Tryz.results59, go_sem, k0, k1, k2]) rfl ⟨_, rfl, HFN.out.1, HFN.out.2⟩
  · have h0z : (all == 0) = false := by rw [beq_eq_false_iff_ne]; exact h0
    have HQ := Lib.hid (brnQ_eq (g := g) (o := o) (bad := bad) h0 (by omega) g1)
    have hbn : bad.natAbs ≤ 10000000000000000 := by omega
    have han : all.toNat ≤ 10000000000000000 := by omega
    have hon : o.natAbs ≤ 10000000000000000 := by omega
    have hgn : (o - g).toNat ≤ 10000000000000000 := by omega
    have HZ1 := Lib.hid (sz_part (n := 5) (z := bad) (d := all.toNat) (by omega) (t4_5 hbn) (t4_5 han))
    have HZ2 := Lib.hid (sz_part (n := 5) (z := o) (d := (o - g).toNat) (by omega) (t4_5 hon) (t4_5 hgn))
    have hw0 : IntKind.i64.wrap (o - g) = o - g := IntWalk.i64_in _ (by omega)
    have HKS3 := Lib.hid (show ∀ X, Below W0.heap.size W0 X → (fun X => Below W0.heap.size W0 X ∧ X.cell? ⟨w.heap.size, 0, none⟩ = some (.int .i64 g) ∧ X.cell? ⟨w.heap.size, 1, none⟩ = some (.int .i64 o)) X from fun X hX => by
      have hox := (hX.block _ (heap_lt HO.out)).trans HO.out
      exact ⟨hX, by rw [cellsAt hox]; rfl, by rw [cellsAt hox]; rfl⟩)
    clear hbn han hon hgn
    go_enter Tryz.func59, Tryz.ntmps59
    go_wp2_with fail
    rw [← hW0]
    clear hW0
    skip
    {
 refine wp_region_last (init := #[_, _, _, _, _, _, _, _, _, _, _, _]) (last := _) rfl (by kernel_rfl) (by kernel_rfl) (by kernel_rfl) ?_
 show wpAny _ _ _ _ 12 (Array.replicate 12 false) _ W0.drew
 refine wpAny_of_held (S := (fun X => Below W0.heap.size W0 X ∧ X.cell? ⟨w.heap.size, 0, none⟩ = some (.int .i64 g) ∧ X.cell? ⟨w.heap.size, 1, none⟩ = some (.int .i64 o))) _ _ _ _ ?_
 have HS0 := HKS3.out _ (Below.refl _ W0).drew
 have hbx0 : Below W0.heap.size W0 W0.drew := (Below.refl _ _).drew
 obtain ⟨Xx0, hXx0⟩ : ∃ X, X = W0.drew := ⟨_, rfl⟩
 rw [← hXx0] at hbx0 HS0 ⊢
 have HBx0 := Lib.hid hbx0
 clear hbx0 hXx0
 refine wpAnyH_take (i := 0) (v := ?_) rfl (by kernel_rfl) (by kernel_rfl) (by kernel_rfl) (fun _ _ _ h => h) (Or.inl ⟨by kernel_rfl, ?_⟩) HS0 ?_
 rotate_left
 · intro W hW; (try dsimp only at hW); go_simp; try (with_reducible rfl)
 refine wpAnyH_take (i := 1) (v := ?_) rfl (by kernel_rfl) (by kernel_rfl) (by kernel_rfl) (fun _ _ _ h => h) (Or.inl ⟨by kernel_rfl, ?_⟩) HS0 ?_
 rotate_left
 · intro W hW; (try dsimp only at hW); go_simp; try (with_reducible rfl)
 refine wpAnyH_take (i := 3) (v := ?_) rfl (by kernel_rfl) (by kernel_rfl) (by kernel_rfl) (fun _ _ _ h => h) (Or.inl ⟨by kernel_rfl, ?_⟩) HS0 ?_
 rotate_left
 · intro W hW; (try dsimp only at hW); go_simp; try (with_reducible rfl)
 refine wpAnyH_take (i := 4) (v := ?_) rfl (by kernel_rfl) (by kernel_rfl) (by kernel_rfl) (fun _ _ _ h => h) (Or.inl ⟨by kernel_rfl, ?_⟩) HS0 ?_
 rotate_left
 · intro W hW; (try dsimp only at hW); go_simp; try (with_reducible rfl)
 refine wpAnyH_take (i := 5) (v := ?_) rfl (by kernel_rfl) (by kernel_rfl) (by kernel_rfl) (fun _ _ _ h => h) (Or.inl ⟨by kernel_rfl, ?_⟩) HS0 ?_
 rotate_left
 · intro W hW; (try dsimp only at hW); go_simp; try (with_reducible rfl)
 refine wpAnyH_take (i := 6) (v := ?_) rfl (by kernel_rfl) (by kernel_rfl) (by kernel_rfl) (fun _ _ _ h => h) (Or.inl ⟨by kernel_rfl, ?_⟩) HS0 ?_
 rotate_left
 · intro W hW; (try dsimp only at hW); go_simp; try (with_reducible rfl)
 refine wpAnyH_take (i := 7) (v := ?_) rfl (by kernel_rfl) (by kernel_rfl) (by kernel_rfl) (fun _ _ _ h => h) (Or.inl ⟨by kernel_rfl, ?_⟩) HS0 ?_
 rotate_left
 · intro W hW; (try dsimp only at hW); go_simp; try (with_reducible rfl)
 refine wpAnyH_take (i := 8) (v := ?_) rfl (by kernel_rfl) (by kernel_rfl) (by kernel_rfl) (fun _ _ _ h => h) (Or.inl ⟨by kernel_rfl, ?_⟩) HS0 ?_
 rotate_left
 · intro W hW; (try dsimp only at hW); go_simp; try (with_reducible rfl)
 refine wpAnyH_take (i := 9) (v := ?_) rfl (by kernel_rfl) (by kernel_rfl) (by kernel_rfl) (fun _ _ _ h => h) (Or.inl ⟨by kernel_rfl, ?_⟩) HS0 ?_
 rotate_left
 · intro W hW; (try dsimp only at hW); go_simp; try (with_reducible rfl)
 clear HS0
 refine run_one (i := 2) (by kernel_rfl) rfl rfl ?_
 intro K hK
 go_simp
 (with_reducible refine (rPart_any bad all Xx0 (by omega) (by omega) (by omega) (by omega)).mono ?_)
 rintro e Xx1 ⟨v1, rfl, hvx1, hbx1⟩
 have HBx1 := Lib.hid (below_next (HBx0.out) hbx1)
 refine hK.out _ _ (HKS3.out _ HBx1.out) ?_
 clear hK K
 intro _
 obtain ⟨bp, Ap, cp, lp, Dp, dp, mp, rfl⟩ := hvx1.shape
 refine run_one (i := 10) (by kernel_rfl) rfl rfl ?_
 intro K hK
 go_simp
 (with_reducible refine (rPart_any o (o - g) Xx1 (by omega) (by omega) (by omega) (by omega)).mono ?_)
 rintro e Xx2 ⟨v2, rfl, hvx2, hbx2⟩
 have HBx2 := Lib.hid (below_next (HBx1.out) hbx2)
 refine hK.out _ _ (HKS3.out _ HBx2.out) ?_
 clear hK K
 intro _
 obtain ⟨bq, Aq, cq, lq, Dq, dq, mq, rfl⟩ := hvx2.shape
 refine run_one (i := 11) (by kernel_rfl) rfl rfl ?_
 intro K hK
 go_simp
 (with_reducible refine (rTimes_any 5 _ _ _ _ Xx2 (by omega) ((hvx1).on hbx2) (hvx2) HZ1.out HZ2.out).mono ?_)
 rintro e Xx3 ⟨v3, rfl, hvx3, hbx3⟩
 have HBx3 := Lib.hid (below_next (HBx2.out) hbx3)
 refine hK.out _ _ (HKS3.out _ HBx3.out) ?_
 clear hK K
 intro _
 obtain ⟨br, Ar, cr, lr, Dr, dr, mr, rfl⟩ := hvx3.shape
 refine wpAnyH_done (by kernel_rfl) ?_ _
 simp only [LastQ]
 have hfb := HX0.out.on (HBx3.out)
 obtain ⟨k0, k1, k2, s0, s1, s2, hlt⟩ := hfb.facts
 have hvr := hvx3
 rw [← HQ.out] at hvr
 have HFN := Lib.hid (fq_ret hfb hvr (below_next HB.out (HBx3.out)) (by omega) (fr3 (w := Xx3) (B := w.heap.size + 1) (.bool br) (.slice Ar lr.length cr) (.slice Dr mr.length dr)))
 clear hvr hfb
 go_simp
 go_wp2
 refine bodyPost_ret (v := .agg #[.bool br, .slice Ar lr.length cr, .slice Dr mr.length dr]) (by simp [results, Tryz.results59, go_sem, k0, k1, k2]) rfl ⟨_, rfl, HFN.out.1, HFN.out.2⟩
    }
end Go.Proofs.YtnpfdelklolchaaGreatDoor
