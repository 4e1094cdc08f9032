/- Package judge: how far points are from a line. Printed by gen_jfar.py. -/
import Derived.Test.YtpmnhdgajkickaaGreatDoorJPts
import Derived.Test.YtpmnhdgajkickaaGreatDoorL2
import Derived.Test.YtpmnhdgajkickaaGreatDoorB4
namespace Go.Proofs.YtpmnhdgajkickaaGreatDoor
open Go Go.RowKit Go.Proofs

theorem lin_parts {l : List (Int × Int)} (hb : BndP l) (h : 0 < vXX l) (hn : 0 < l.length) : linF l = mkRat (sg false ((vYY l).toNat * (vXX l).toNat - (vXY l).natAbs * (vXY l).natAbs)) (l.length * (vXX l).toNat) ∧ (vXY l).natAbs * (vXY l).natAbs ≤ (vYY l).toNat * (vXX l).toNat ∧ (vYY l).toNat * (vXX l).toNat - (vXY l).natAbs * (vXY l).natAbs < W64 ^ 2 ∧ l.length * (vXX l).toNat < W64 ^ 2 ∧ 0 < l.length * (vXX l).toNat := by
  obtain ⟨⟨a1, a2⟩, ⟨b1, b2⟩, c1, c2⟩ := hb.spr
  have hc := cs_le h
  have e1 : (((vYY l).toNat * (vXX l).toNat : Nat) : Int) = vYY l * vXX l := by rw [Int.natCast_mul, Int.toNat_of_nonneg a1, Int.toNat_of_nonneg c1]
  have e2 : (((vXY l).natAbs * (vXY l).natAbs : Nat) : Int) = vXY l * vXY l := by rw [Int.natCast_mul, Int.natAbs_mul_self']
  have hle : (vXY l).natAbs * (vXY l).natAbs ≤ (vYY l).toNat * (vXX l).toNat := by omega
  have hx : (vXX l).toNat < W64 := by unfold W64; omega
  have hy : (vYY l).toNat < W64 := by unfold W64; omega
  have hnn : l.length < W64 := by have := hb.n; unfold W64; omega
  have m1 : (vYY l).toNat * (vXX l).toNat < W64 * W64 := Nat.mul_lt_mul'' hy hx
  have m2 : l.length * (vXX l).toNat < W64 * W64 := Nat.mul_lt_mul'' hnn hx
  have ew : W64 ^ 2 = W64 * W64 := Nat.pow_two _
  refine ⟨?_, hle, by omega, by omega, Nat.mul_pos hn (by omega)⟩
  unfold linF
  congr 1
  show _ = (((vYY l).toNat * (vXX l).toNat - (vXY l).natAbs * (vXY l).natAbs : Nat) : Int)
  omega
set_option maxHeartbeats 8000000 in
set_option maxRecDepth 100000 in
theorem jFar_any (l : List (Int × Int)) (w : World) (hb : BndP l) (hx : 0 < vXX l) (hn : 0 < l.length) :
    Calls Tryz.prog 79 #[.agg #[.int .i64 ((l.length : Nat) : Int), .int .i64 (pX l), .int .i64 (pY l), .int .i64 (pXX l), .int .i64 (pXY l), .int .i64 (pYY l)]] w (JQPost (linF l) 2 w) := by
  obtain ⟨q1, q2, q3, q4, q5⟩ := lin_parts hb hx hn
  obtain ⟨⟨a1, a2⟩, ⟨b1, b2⟩, d1, d2⟩ := hb.spr
  have hSP := jMomSpr_any ((l.length : Nat) : Int) (pX l) (pY l) (pXX l) (pXY l) (pYY l)
  have HSPR := Lib.hid (fun W => hSP W (by omega) (by have := hb.n; omega) hb.x1 hb.x2 hb.y1 hb.y2 hb.xx1 hb.xx2 hb.xy1 hb.xy2 hb.yy1 hb.yy2)
  rw [show (l.length : Int) * pXX l - pX l * pX l = vXX l from rfl, show (l.length : Int) * pXY l - pX l * pY l = vXY l from rfl, show (l.length : Int) * pYY l - pY l * pY l = vYY l from rfl] at HSPR
  have HSQ := Lib.hid (fun W => jSquare_any (vXY l) W (by omega) (by omega))
  have HOX := Lib.hid (fun W => natOf_any (vXX l) W (by omega))
  have HOY := Lib.hid (fun W => natOf_any (vYY l) W (by omega))
  have HON0 := Lib.hid (fun W => natOf_any ((l.length : Nat) : Int) W (by have := hb.n; omega))
  rw [Int.toNat_natCast] at HON0
  obtain ⟨vx, hvx⟩ : ∃ z, z = vXX l := ⟨_, rfl⟩
  obtain ⟨vy, hvy⟩ : ∃ z, z = vYY l := ⟨_, rfl⟩
  obtain ⟨vz, hvz⟩ : ∃ z, z = vXY l := ⟨_, rfl⟩
  rw [← hvx] at HOX HSPR a1 a2
  rw [← hvy] at HOY HSPR d1 d2
  rw [← hvz] at HSQ HSPR b1 b2
  rw [← hvx, ← hvy, ← hvz] at q1 q2 q3
  rw [← hvx] at q4 q5
  obtain ⟨Xn, hXn⟩ : ∃ z, z = vx.toNat := ⟨_, rfl⟩
  obtain ⟨Y, hY⟩ : ∃ z, z = vy.toNat := ⟨_, rfl⟩
  obtain ⟨Z, hZ⟩ : ∃ z, z = vz.natAbs := ⟨_, rfl⟩
  obtain ⟨N, hN⟩ : ∃ z, z = l.length := ⟨_, rfl⟩
  rw [← hXn] at HOX
  rw [← hXn] at q4 q5
  rw [← hXn, ← hY, ← hZ] at q1 q2 q3
  rw [← hY] at HOY
  rw [← hZ] at HSQ
  rw [← hN] at q1 q4 q5
  have HON := Lib.hid (show ∀ W, Calls Tryz.prog 84 #[.int .i64 ((l.length : Nat) : Int)] W (NatPost N W) from fun W => by rw [hN]; exact HON0.out W)
  have HXW := Lib.hid (show Xn < W64 ^ 1 by unfold W64; omega)
  have HYW := Lib.hid (show Y < W64 ^ 1 by unfold W64; omega)
  have HNW := Lib.hid (show N < W64 ^ 1 by have := hb.n; unfold W64; omega)
  have hsz : Y * Xn < W64 ^ 2 := by
    have h1 := HXW.out
    have h2 := HYW.out
    rw [Nat.pow_one] at h1 h2
    rw [Nat.pow_two]
    exact Nat.mul_lt_mul'' h2 h1
  have HM := Lib.hid (fun W A1 A2 c1 c2 l1 l2 x y (h1 : NatR W A1 c1 l1 x) (h2 : NatR W A2 c2 l2 y) (g1 : x < W64 ^ 1) (g2 : y < W64 ^ 1) => natMul_any A1 A2 c1 c2 l1 l2 x y W h1 h2 (by have := h1.len g1; omega) (by have := h2.len g2; omega))
  have HSB := Lib.hid (fun W A1 A2 c1 c2 l1 l2 (h1 : NatR W A1 c1 l1 (Y * Xn)) (h2 : NatR W A2 c2 l2 (Z * Z)) => natSub_any A1 A2 c1 c2 l1 l2 _ _ W h1 h2 (by have := h1.len hsz; omega) q2)
  have HEQ := Lib.hid q1.symm
  have HLT := Lib.hid (And.intro q3 q4)
  have HPOS := Lib.hid q5
  obtain ⟨L, hL⟩ : ∃ L : Int, L = ((l.length : Nat) : Int) := ⟨_, rfl⟩
  obtain ⟨W0, hW0⟩ : ∃ W0, W0 = (w.alloc (.cells #[.int .i64 ((l.length : Nat) : Int), .int .i64 (pX l), .int .i64 (pY l), .int .i64 (pXX l), .int .i64 (pXY l), .int .i64 (pYY l)] 89)).alloc (.cells #[.bool false, .slice none 0 0, .slice none 0 0] 53) := ⟨_, rfl⟩
  have HST0 := Lib.hid (show St w W0 [(w.heap.size, .cells #[.int .i64 ((l.length : Nat) : Int), .int .i64 (pX l), .int .i64 (pY l), .int .i64 (pXX l), .int .i64 (pXY l), .int .i64 (pYY l)] 89 (0, 0)), (w.heap.size + 1, .cells #[.bool false, .slice none 0 0, .slice none 0 0] 53 (0, 0))] by rw [hW0]; exact ((St.start w).alloc _ _ rfl).alloc _ _ (by simp))
  have HX0 := Lib.hid (show JBox W0 (w.heap.size + 1) from HST0.out.at 1 rfl)
  have HNN := Lib.hid hN
  clear hL hXn hY hZ hN hvx hvy hvz q1 q2 q3 q4 q5 hsz hb hx hn a1 a2 b1 b2 d1 d2 hSP
  go_enter Tryz.func79, Tryz.ntmps79
  go_wp2_with fail
  rw [← hW0]
  clear hW0
  (with_reducible refine (HSPR.out _).mono ?_)
  rintro e w1 ⟨rfl, hb1⟩
  have HB1 := Lib.hid hb1
  clear hb1
  go_wp2_with fail
  have HKS := Lib.hid (show ∀ X, Below w1.heap.size w1 X → (fun X => Below w1.heap.size w1 X ∧ X.cell? ⟨w.heap.size, 0, none⟩ = some (.int .i64 ((l.length : Nat) : Int))) X from fun X hX => ⟨hX, (HST0.out.call (below_next HB1.out hX)).cell 0 0 rfl rfl⟩)
  refine wp_region_last (init := #[_, _, _, _, _, _, _, _, _, _, _, _, _, _, _]) (last := _) rfl (by kernel_rfl) (by kernel_rfl) (by kernel_rfl) ?_
  show wpAny _ _ _ _ 15 (Array.replicate 15 false) _ w1.drew
  refine wpAny_of_held (S := (fun X => Below w1.heap.size w1 X ∧ X.cell? ⟨w.heap.size, 0, none⟩ = some (.int .i64 ((l.length : Nat) : Int)))) _ _ _ _ ?_
  have HS0 := HKS.out _ (Below.refl _ w1).drew
  have hbx0 : Below w1.heap.size w1 w1.drew := (Below.refl _ _).drew
  obtain ⟨Xx0, hXx0⟩ : ∃ X, X = w1.drew := ⟨_, rfl⟩
  rw [← hXx0] at hbx0 HS0 ⊢
  have HBx0 := Lib.hid hbx0
  clear hbx0 hXx0
  refine wpAnyH_take (i := 0) (v := ?_) rfl (by kernel_rfl) (by kernel_rfl) (by kernel_rfl) (fun _ _ _ h => h) (Or.inl ⟨by rfl, ?_⟩) HS0 ?_
  rotate_left
  · intro W hW; (try dsimp only at hW); go_simp; try (with_reducible rfl)

  refine wpAnyH_take (i := 2) (v := ?_) rfl (by kernel_rfl) (by kernel_rfl) (by kernel_rfl) (fun _ _ _ h => h) (Or.inl ⟨by rfl, ?_⟩) HS0 ?_
  rotate_left
  · intro W hW; (try dsimp only at hW); go_simp; try (with_reducible rfl)

  refine wpAnyH_take (i := 5) (v := ?_) rfl (by kernel_rfl) (by kernel_rfl) (by kernel_rfl) (fun _ _ _ h => h) (Or.inl ⟨by rfl, ?_⟩) HS0 ?_
  rotate_left
  · intro W hW; (try dsimp only at hW); go_simp; try (with_reducible rfl)

  refine wpAnyH_take (i := 8) (v := ?_) rfl (by kernel_rfl) (by kernel_rfl) (by kernel_rfl) (fun _ _ _ h => h) (Or.inl ⟨by rfl, ?_⟩) HS0 ?_
  rotate_left
  · intro W hW; (try dsimp only at hW); go_simp; try (with_reducible rfl)

  refine wpAnyH_take (i := 9) (v := ?_) rfl (by kernel_rfl) (by kernel_rfl) (by kernel_rfl) (fun _ _ _ h => h) (Or.inl ⟨by rfl, ?_⟩) HS0 ?_
  rotate_left
  · intro W hW; (try dsimp only at hW); go_simp; try (with_reducible rfl)

  refine wpAnyH_take (i := 11) (v := ?_) rfl (by kernel_rfl) (by kernel_rfl) (by kernel_rfl) (fun _ _ _ h => h) (Or.inl ⟨by rfl, ?_⟩) HS0 ?_
  rotate_left
  · intro W hW; (try dsimp only at hW); go_simp; try (with_reducible rfl)

  clear HS0
  refine run_one (i := 1) (by kernel_rfl) rfl rfl ?_
  intro K hK
  go_simp
  (with_reducible refine (HOY.out Xx0).mono ?_)
  rintro e Xx1 ⟨Ayy, cyy, lyy, rfl, hnyy, hbx1⟩
  have HBx1 := Lib.hid (below_next (HBx0.out) hbx1)
  refine hK.out _ _ (HKS.out _ HBx1.out) ?_
  clear hK K
  intro _

  refine run_one (i := 3) (by kernel_rfl) rfl rfl ?_
  intro K hK
  go_simp
  (with_reducible refine (HOX.out Xx1).mono ?_)
  rintro e Xx2 ⟨Axx, cxx, lxx, rfl, hnxx, hbx2⟩
  have HBx2 := Lib.hid (below_next (HBx1.out) hbx2)
  refine hK.out _ _ (HKS.out _ HBx2.out) ?_
  clear hK K
  intro _

  refine run_one (i := 4) (by kernel_rfl) rfl rfl ?_
  intro K hK
  go_simp
  (with_reducible refine (HM.out Xx2 _ _ _ _ _ _ Y Xn ((hnyy).on hbx2) (hnxx) HYW.out HXW.out).mono ?_)
  rintro e Xx3 ⟨Ap1, cp1, lp1, rfl, hnp1, hbx3⟩
  have HBx3 := Lib.hid (below_next (HBx2.out) hbx3)
  refine hK.out _ _ (HKS.out _ HBx3.out) ?_
  clear hK K
  intro _

  refine run_one (i := 6) (by kernel_rfl) rfl rfl ?_
  intro K hK
  go_simp
  (with_reducible refine (HSQ.out Xx3).mono ?_)
  rintro e Xx4 ⟨Asq, csq, lsq, rfl, hnsq, hbx4⟩
  have HBx4 := Lib.hid (below_next (HBx3.out) hbx4)
  refine hK.out _ _ (HKS.out _ HBx4.out) ?_
  clear hK K
  intro _

  refine run_one (i := 7) (by kernel_rfl) rfl rfl ?_
  intro K hK
  go_simp
  (with_reducible refine (HSB.out Xx4 _ _ _ _ _ _ ((hnp1).on hbx4) (hnsq)).mono ?_)
  rintro e Xx5 ⟨Adf, cdf, ldf, rfl, hndf, hbx5⟩
  have HBx5 := Lib.hid (below_next (HBx4.out) hbx5)
  refine hK.out _ _ (HKS.out _ HBx5.out) ?_
  clear hK K
  intro _

  refine run_one (i := 10) (by kernel_rfl) rfl rfl ?_
  intro K hK
  go_simp
  (with_reducible refine (HON.out Xx5).mono ?_)
  rintro e Xx6 ⟨Ann, cnn, lnn, rfl, hnnn, hbx6⟩
  have HBx6 := Lib.hid (below_next (HBx5.out) hbx6)
  refine hK.out _ _ (HKS.out _ HBx6.out) ?_
  clear hK K
  intro _

  refine run_one (i := 12) (by kernel_rfl) rfl rfl ?_
  intro K hK
  go_simp
  (with_reducible refine (HOX.out Xx6).mono ?_)
  rintro e Xx7 ⟨Ax2, cx2, lx2, rfl, hnx2, hbx7⟩
  have HBx7 := Lib.hid (below_next (HBx6.out) hbx7)
  refine hK.out _ _ (HKS.out _ HBx7.out) ?_
  clear hK K
  intro _

  refine run_one (i := 13) (by kernel_rfl) rfl rfl ?_
  intro K hK
  go_simp
  (with_reducible refine (HM.out Xx7 _ _ _ _ _ _ N Xn ((hnnn).on hbx7) (hnx2) HNW.out HXW.out).mono ?_)
  rintro e Xx8 ⟨Ap2, cp2, lp2, rfl, hnp2, hbx8⟩
  have HBx8 := Lib.hid (below_next (HBx7.out) hbx8)
  refine hK.out _ _ (HKS.out _ HBx8.out) ?_
  clear hK K
  intro _

  refine run_one (i := 14) (by kernel_rfl) rfl rfl ?_
  intro K hK
  go_simp
  (with_reducible refine (jOf_any _ _ _ _ _ _ _ _ Xx8 ((((hndf).on hbx6).on hbx7).on hbx8) (hnp2)).mono ?_)
  rintro e Xx9 ⟨v9, rfl, hvx9, hbx9⟩
  have HBx9 := Lib.hid (below_next (HBx8.out) hbx9)
  refine hK.out _ _ (HKS.out _ HBx9.out) ?_
  clear hK K
  intro _

  refine wpAnyH_done (by kernel_rfl) ?_ _
  simp only [LastQ]
  have HBN := Lib.hid (below_next HB1.out (HBx9.out))
  have hq : JQ Xx9 _ (linF l) 2 := ⟨false, _, _, hvx9, HEQ.out, HLT.out.1, HLT.out.2, HPOS.out⟩
  obtain ⟨b7, A7, c7, l7, A8, c8, l8, rfl⟩ := hq.shape
  obtain ⟨k0, k1, k2, s0, s1, s2, hlt⟩ := (HX0.out.on HBN.out).facts
  have HFN := Lib.hid (jq_ret (HX0.out.on HBN.out) hq (below_next HST0.out.below HBN.out) (by omega) (fr3 (w := Xx9) (B := w.heap.size + 1) (.bool b7) (.slice A7 l7.length c7) (.slice A8 l8.length c8)))
  clear hq
  go_simp
  go_wp2
  refine bodyPost_ret (v := .agg #[.bool b7, .slice A7 l7.length c7, .slice A8 l8.length c8]) (by simp [results, Tryz.results79, go_sem, k0, k1, k2]) rfl ⟨_, rfl, HFN.out.1, HFN.out.2⟩
end Go.Proofs.YtpmnhdgajkickaaGreatDoor
