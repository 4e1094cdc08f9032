import Derived.Test.YtpmnhdgajkickaaGreatDoorB26
import Derived.Test.YtpmnhdgajkickaaGreatDoorL0
import Derived.Test.YtpmnhdgajkickaaGreatDoorL2
/- Package judge: the sums of points. -/
namespace Go.Proofs.YtpmnhdgajkickaaGreatDoor
open Go Go.RowKit Go.Proofs

theorem ibound {x y A B : Int} (h1 : -A ≤ x) (h2 : x ≤ A) (h3 : -B ≤ y) (h4 : y ≤ B) : -(A * B) ≤ x * y ∧ x * y ≤ A * B := by
  have hx : x.natAbs ≤ A.natAbs := by omega
  have hy : y.natAbs ≤ B.natAbs := by omega
  have h := Nat.mul_le_mul hx hy
  rw [← Int.natAbs_mul, ← Int.natAbs_mul] at h
  have hAB : 0 ≤ A * B := Int.mul_nonneg (by omega) (by omega)
  omega
set_option maxHeartbeats 8000000 in
set_option maxRecDepth 100000 in
theorem jMomAdd_any (n sx sy sxx sxy syy x y : Int) (w : World) (hn0 : 0 ≤ n) (hn1 : n ≤ 1000) (h1 : -1000000000000000 ≤ sx) (h2 : sx ≤ 1000000000000000) (h3 : -1000000000000000 ≤ sy) (h4 : sy ≤ 1000000000000000) (h5 : -1000000000000000 ≤ sxx) (h6 : sxx ≤ 1000000000000000) (h7 : -1000000000000000 ≤ sxy) (h8 : sxy ≤ 1000000000000000) (h9 : -1000000000000000 ≤ syy) (h10 : syy ≤ 1000000000000000) (hx1 : -1000000 ≤ x) (hx2 : x ≤ 1000000) (hy1 : -1000000 ≤ y) (hy2 : y ≤ 1000000) :
    Calls Tryz.prog 71 #[.agg #[.int .i64 n, .int .i64 sx, .int .i64 sy, .int .i64 sxx, .int .i64 sxy, .int .i64 syy], .int .i64 x, .int .i64 y] w fun e w' => e = .returned (.agg #[.int .i64 (n + 1), .int .i64 (sx + x), .int .i64 (sy + y), .int .i64 (sxx + x * x), .int .i64 (sxy + x * y), .int .i64 (syy + y * y)]) ∧ Below w.heap.size w w' := by
  obtain ⟨b1, b2⟩ := ibound (A := 1000000) (B := 1000000) hx1 hx2 hx1 hx2
  obtain ⟨b3, b4⟩ := ibound (A := 1000000) (B := 1000000) hx1 hx2 hy1 hy2
  obtain ⟨b5, b6⟩ := ibound (A := 1000000) (B := 1000000) hy1 hy2 hy1 hy2
  rw [show (1000000 : Int) * 1000000 = 1000000000000 from rfl] at b1 b2 b3 b4 b5 b6
  go_enter Tryz.func71, Tryz.ntmps71
  go_wp2
  refine bodyPost_ret (v := .agg #[.int .i64 (n + 1), .int .i64 (sx + x), .int .i64 (sy + y), .int .i64 (sxx + x * x), .int .i64 (sxy + x * y), .int .i64 (syy + y * y)]) (by simp [results, Tryz.results71, go_sem]) rfl ⟨rfl, ((Below.refl _ w).alloc (Nat.le_refl _) _).alloc (by simp) _⟩
set_option maxHeartbeats 8000000 in
set_option maxRecDepth 100000 in
theorem jMomMinus_any (n sx sy sxx sxy syy m tx ty txx txy tyy : Int) (w : World) (hn0 : -1000 ≤ n) (hn1 : n ≤ 1000) (h1 : -1000000000000000 ≤ sx) (h2 : sx ≤ 1000000000000000) (h3 : -1000000000000000 ≤ sy) (h4 : sy ≤ 1000000000000000) (h5 : -1000000000000000 ≤ sxx) (h6 : sxx ≤ 1000000000000000) (h7 : -1000000000000000 ≤ sxy) (h8 : sxy ≤ 1000000000000000) (h9 : -1000000000000000 ≤ syy) (h10 : syy ≤ 1000000000000000)
    (gn0 : -1000 ≤ m) (gn1 : m ≤ 1000) (g1 : -1000000000000000 ≤ tx) (g2 : tx ≤ 1000000000000000) (g3 : -1000000000000000 ≤ ty) (g4 : ty ≤ 1000000000000000) (g5 : -1000000000000000 ≤ txx) (g6 : txx ≤ 1000000000000000) (g7 : -1000000000000000 ≤ txy) (g8 : txy ≤ 1000000000000000) (g9 : -1000000000000000 ≤ tyy) (g10 : tyy ≤ 1000000000000000) :
    Calls Tryz.prog 80 #[.agg #[.int .i64 n, .int .i64 sx, .int .i64 sy, .int .i64 sxx, .int .i64 sxy, .int .i64 syy], .agg #[.int .i64 m, .int .i64 tx, .int .i64 ty, .int .i64 txx, .int .i64 txy, .int .i64 tyy]] w fun e w' => e = .returned (.agg #[.int .i64 (n - m), .int .i64 (sx - tx), .int .i64 (sy - ty), .int .i64 (sxx - txx), .int .i64 (sxy - txy), .int .i64 (syy - tyy)]) ∧ Below w.heap.size w w' := by
  go_enter Tryz.func80, Tryz.ntmps80
  go_wp2
  refine bodyPost_ret (v := .agg #[.int .i64 (n - m), .int .i64 (sx - tx), .int .i64 (sy - ty), .int .i64 (sxx - txx), .int .i64 (sxy - txy), .int .i64 (syy - tyy)]) (by simp [results, Tryz.results80, go_sem]) rfl ⟨rfl, (((Below.refl _ w).alloc (Nat.le_refl _) _).alloc (by simp) _).alloc (by simp; omega) _⟩
set_option maxHeartbeats 8000000 in
set_option maxRecDepth 100000 in
theorem jMomSpr_any (n sx sy sxx sxy syy : Int) (w : World) (hn0 : 0 ≤ n) (hn1 : n ≤ 300) (h1 : -300000000 ≤ sx) (h2 : sx ≤ 300000000) (h3 : -300000000 ≤ sy) (h4 : sy ≤ 300000000) (h5 : -300000000000000 ≤ sxx) (h6 : sxx ≤ 300000000000000) (h7 : -300000000000000 ≤ sxy) (h8 : sxy ≤ 300000000000000) (h9 : -300000000000000 ≤ syy) (h10 : syy ≤ 300000000000000) :
    Calls Tryz.prog 72 #[.agg #[.int .i64 n, .int .i64 sx, .int .i64 sy, .int .i64 sxx, .int .i64 sxy, .int .i64 syy]] w fun e w' => e = .returned (.tuple #[.int .i64 (n * sxx - sx * sx), .int .i64 (n * sxy - sx * sy), .int .i64 (n * syy - sy * sy)]) ∧ Below w.heap.size w w' := by
  obtain ⟨b1, b2⟩ := ibound (A := 300000000) (B := 300000000) h1 h2 h1 h2
  obtain ⟨b3, b4⟩ := ibound (A := 300000000) (B := 300000000) h1 h2 h3 h4
  obtain ⟨b5, b6⟩ := ibound (A := 300000000) (B := 300000000) h3 h4 h3 h4
  obtain ⟨c1, c2⟩ := ibound (A := 300) (B := 300000000000000) (by omega) hn1 h5 h6
  obtain ⟨c3, c4⟩ := ibound (A := 300) (B := 300000000000000) (by omega) hn1 h7 h8
  obtain ⟨c5, c6⟩ := ibound (A := 300) (B := 300000000000000) (by omega) hn1 h9 h10
  rw [show (300000000 : Int) * 300000000 = 90000000000000000 from rfl] at b1 b2 b3 b4 b5 b6
  rw [show (300 : Int) * 300000000000000 = 90000000000000000 from rfl] at c1 c2 c3 c4 c5 c6
  obtain ⟨W0, hW0⟩ : ∃ W0, W0 = w.alloc (.cells #[.int .i64 n, .int .i64 sx, .int .i64 sy, .int .i64 sxx, .int .i64 sxy, .int .i64 syy] 89) := ⟨_, rfl⟩
  have HB0 := Lib.hid (show Below w.heap.size w W0 by rw [hW0]; exact (Below.refl _ w).alloc (Nat.le_refl _) _)
  have HE0 := Lib.hid (show W0.heap[w.heap.size]? = some (.cells #[.int .i64 n, .int .i64 sx, .int .i64 sy, .int .i64 sxx, .int .i64 sxy, .int .i64 syy] 89 (0, 0)) by rw [hW0]; exact alloc_at _ _ _ rfl)
  have HKS := Lib.hid (show ∀ X, Below W0.heap.size W0 X → (fun X => Below W0.heap.size W0 X ∧ X.cell? ⟨w.heap.size, 0, none⟩ = some (.int .i64 n) ∧ X.cell? ⟨w.heap.size, 1, none⟩ = some (.int .i64 sx) ∧ X.cell? ⟨w.heap.size, 2, none⟩ = some (.int .i64 sy) ∧ X.cell? ⟨w.heap.size, 3, none⟩ = some (.int .i64 sxx) ∧ X.cell? ⟨w.heap.size, 4, none⟩ = some (.int .i64 sxy) ∧ X.cell? ⟨w.heap.size, 5, none⟩ = some (.int .i64 syy)) X from fun X hX => by
    have e := (hX.block _ (heap_lt HE0.out)).trans HE0.out
    exact ⟨hX, by rw [cellsAt e]; rfl, by rw [cellsAt e]; rfl, by rw [cellsAt e]; rfl, by rw [cellsAt e]; rfl, by rw [cellsAt e]; rfl, by rw [cellsAt e]; rfl⟩)
  go_enter Tryz.func72, Tryz.ntmps72
  go_wp2_with fail
  rw [← hW0]
  clear hW0
  refine wp_region_noPanic ?_
  refine wp_region_held_drew (S := (fun X => Below W0.heap.size W0 X ∧ X.cell? ⟨w.heap.size, 0, none⟩ = some (.int .i64 n) ∧ X.cell? ⟨w.heap.size, 1, none⟩ = some (.int .i64 sx) ∧ X.cell? ⟨w.heap.size, 2, none⟩ = some (.int .i64 sy) ∧ X.cell? ⟨w.heap.size, 3, none⟩ = some (.int .i64 sxx) ∧ X.cell? ⟨w.heap.size, 4, none⟩ = some (.int .i64 sxy) ∧ X.cell? ⟨w.heap.size, 5, none⟩ = some (.int .i64 syy))) (by kernel_rfl) (HKS.out _ (Below.refl _ W0).drew) (fun HS0 => ?_)
  have hbx0 : Below W0.heap.size W0 W0.drew := (Below.refl _ _).drew
  obtain ⟨Xx0, hXx0⟩ : ∃ X, X = W0.drew := ⟨_, rfl⟩
  rw [← hXx0] at hbx0 HS0 ⊢
  have HBx0 := Lib.hid hbx0
  clear hbx0 hXx0
  refine wpAnyH_take (i := 0) (v := ?_) rfl (by kernel_rfl) (by kernel_rfl) (by kernel_rfl) (fun _ _ _ h => h) (Or.inl ⟨by rfl, ?_⟩) HS0 ?_
  rotate_left
  · intro W hW; (try dsimp only at hW); go_simp; try (with_reducible rfl)

  refine wpAnyH_take (i := 1) (v := ?_) rfl (by kernel_rfl) (by kernel_rfl) (by kernel_rfl) (fun _ _ _ h => h) (Or.inl ⟨by rfl, ?_⟩) HS0 ?_
  rotate_left
  · intro W hW; (try dsimp only at hW); go_simp; try (with_reducible rfl)

  refine wpAnyH_take (i := 2) (v := ?_) rfl (by kernel_rfl) (by kernel_rfl) (by kernel_rfl) (fun _ _ _ h => h) (Or.inl ⟨by rfl, ?_⟩) HS0 ?_
  rotate_left
  · intro W hW; (try dsimp only at hW); go_simp; try (with_reducible rfl)

  refine wpAnyH_take (i := 3) (v := ?_) rfl (by kernel_rfl) (by kernel_rfl) (by kernel_rfl) (fun _ _ _ h => h) (Or.inl ⟨by rfl, ?_⟩) HS0 ?_
  rotate_left
  · intro W hW; (try dsimp only at hW); go_simp; try (with_reducible rfl)

  refine wpAnyH_take (i := 4) (v := ?_) rfl (by kernel_rfl) (by kernel_rfl) (by kernel_rfl) (fun _ _ _ h => h) (Or.inl ⟨by rfl, ?_⟩) HS0 ?_
  rotate_left
  · intro W hW; (try dsimp only at hW); go_simp; try (with_reducible rfl)

  refine wpAnyH_take (i := 5) (v := ?_) rfl (by kernel_rfl) (by kernel_rfl) (by kernel_rfl) (fun _ _ _ h => h) (Or.inl ⟨by rfl, ?_⟩) HS0 ?_
  rotate_left
  · intro W hW; (try dsimp only at hW); go_simp; try (with_reducible rfl)

  refine wpAnyH_take (i := 6) (v := ?_) rfl (by kernel_rfl) (by kernel_rfl) (by kernel_rfl) (fun _ _ _ h => h) (Or.inl ⟨by rfl, ?_⟩) HS0 ?_
  rotate_left
  · intro W hW; (try dsimp only at hW); go_simp; try (with_reducible rfl)

  refine wpAnyH_take (i := 7) (v := ?_) rfl (by kernel_rfl) (by kernel_rfl) (by kernel_rfl) (fun _ _ _ h => h) (Or.inl ⟨by rfl, ?_⟩) HS0 ?_
  rotate_left
  · intro W hW; (try dsimp only at hW); go_simp; try (with_reducible rfl)

  refine wpAnyH_take (i := 8) (v := ?_) rfl (by kernel_rfl) (by kernel_rfl) (by kernel_rfl) (fun _ _ _ h => h) (Or.inl ⟨by rfl, ?_⟩) HS0 ?_
  rotate_left
  · intro W hW; (try dsimp only at hW); go_simp; try (with_reducible rfl)

  refine wpAnyH_take (i := 9) (v := ?_) rfl (by kernel_rfl) (by kernel_rfl) (by kernel_rfl) (fun _ _ _ h => h) (Or.inl ⟨by rfl, ?_⟩) HS0 ?_
  rotate_left
  · intro W hW; (try dsimp only at hW); go_simp; try (with_reducible rfl)

  refine wpAnyH_take (i := 10) (v := ?_) rfl (by kernel_rfl) (by kernel_rfl) (by kernel_rfl) (fun _ _ _ h => h) (Or.inl ⟨by rfl, ?_⟩) HS0 ?_
  rotate_left
  · intro W hW; (try dsimp only at hW); go_simp; try (with_reducible rfl)

  refine wpAnyH_take (i := 11) (v := ?_) rfl (by kernel_rfl) (by kernel_rfl) (by kernel_rfl) (fun _ _ _ h => h) (Or.inl ⟨by rfl, ?_⟩) HS0 ?_
  rotate_left
  · intro W hW; (try dsimp only at hW); go_simp; try (with_reducible rfl)

  refine wpAnyH_take (i := 12) (v := ?_) rfl (by kernel_rfl) (by kernel_rfl) (by kernel_rfl) (fun _ _ _ h => h) (Or.inl ⟨by rfl, ?_⟩) HS0 ?_
  rotate_left
  · intro W hW; (try dsimp only at hW); go_simp; try (with_reducible rfl)

  refine wpAnyH_take (i := 13) (v := ?_) rfl (by kernel_rfl) (by kernel_rfl) (by kernel_rfl) (fun _ _ _ h => h) (Or.inl ⟨by rfl, ?_⟩) HS0 ?_
  rotate_left
  · intro W hW; (try dsimp only at hW); go_simp; try (with_reducible rfl)

  refine wpAnyH_take (i := 14) (v := ?_) rfl (by kernel_rfl) (by kernel_rfl) (by kernel_rfl) (fun _ _ _ h => h) (Or.inl ⟨by rfl, ?_⟩) HS0 ?_
  rotate_left
  · intro W hW; (try dsimp only at hW); go_simp; try (with_reducible rfl)

  refine wpAnyH_take (i := 15) (v := ?_) rfl (by kernel_rfl) (by kernel_rfl) (by kernel_rfl) (fun _ _ _ h => h) (Or.inl ⟨by rfl, ?_⟩) HS0 ?_
  rotate_left
  · intro W hW; (try dsimp only at hW); go_simp; try (with_reducible rfl)

  refine wpAnyH_take (i := 16) (v := ?_) rfl (by kernel_rfl) (by kernel_rfl) (by kernel_rfl) (fun _ _ _ h => h) (Or.inl ⟨by rfl, ?_⟩) HS0 ?_
  rotate_left
  · intro W hW; (try dsimp only at hW); go_simp; try (with_reducible rfl)

  refine wpAnyH_take (i := 17) (v := ?_) rfl (by kernel_rfl) (by kernel_rfl) (by kernel_rfl) (fun _ _ _ h => h) (Or.inl ⟨by rfl, ?_⟩) HS0 ?_
  rotate_left
  · intro W hW; (try dsimp only at hW); go_simp; try (with_reducible rfl)

  refine wpAnyH_take (i := 18) (v := ?_) rfl (by kernel_rfl) (by kernel_rfl) (by kernel_rfl) (fun _ _ _ h => h) (Or.inl ⟨by rfl, ?_⟩) HS0 ?_
  rotate_left
  · intro W hW; (try dsimp only at hW); go_simp; try (with_reducible rfl)

  refine wpAnyH_take (i := 19) (v := ?_) rfl (by kernel_rfl) (by kernel_rfl) (by kernel_rfl) (fun _ _ _ h => h) (Or.inl ⟨by rfl, ?_⟩) HS0 ?_
  rotate_left
  · intro W hW; (try dsimp only at hW); go_simp; try (with_reducible rfl)

  refine wpAnyH_take (i := 20) (v := ?_) rfl (by kernel_rfl) (by kernel_rfl) (by kernel_rfl) (fun _ _ _ h => h) (Or.inl ⟨by rfl, ?_⟩) HS0 ?_
  rotate_left
  · intro W hW; (try dsimp only at hW); go_simp; try (with_reducible rfl)

  refine wpAnyH_take (i := 21) (v := ?_) rfl (by kernel_rfl) (by kernel_rfl) (by kernel_rfl) (fun _ _ _ h => h) (Or.inl ⟨by rfl, ?_⟩) HS0 ?_
  rotate_left
  · intro W hW; (try dsimp only at hW); go_simp; try (with_reducible rfl)

  refine wpAnyH_take (i := 22) (v := ?_) rfl (by kernel_rfl) (by kernel_rfl) (by kernel_rfl) (fun _ _ _ h => h) (Or.inl ⟨by rfl, ?_⟩) HS0 ?_
  rotate_left
  · intro W hW; (try dsimp only at hW); go_simp; try (with_reducible rfl)

  refine wpAnyH_take (i := 23) (v := ?_) rfl (by kernel_rfl) (by kernel_rfl) (by kernel_rfl) (fun _ _ _ h => h) (Or.inl ⟨by rfl, ?_⟩) HS0 ?_
  rotate_left
  · intro W hW; (try dsimp only at hW); go_simp; try (with_reducible rfl)

  refine wpAnyH_take (i := 24) (v := ?_) rfl (by kernel_rfl) (by kernel_rfl) (by kernel_rfl) (fun _ _ _ h => h) (Or.inl ⟨by rfl, ?_⟩) HS0 ?_
  rotate_left
  · intro W hW; (try dsimp only at hW); go_simp; try (with_reducible rfl)

  refine wpAnyH_take (i := 25) (v := ?_) rfl (by kernel_rfl) (by kernel_rfl) (by kernel_rfl) (fun _ _ _ h => h) (Or.inl ⟨by rfl, ?_⟩) HS0 ?_
  rotate_left
  · intro W hW; (try dsimp only at hW); go_simp; try (with_reducible rfl)

  refine wpAnyH_take (i := 26) (v := ?_) rfl (by kernel_rfl) (by kernel_rfl) (by kernel_rfl) (fun _ _ _ h => h) (Or.inl ⟨by rfl, ?_⟩) HS0 ?_
  rotate_left
  · intro W hW; (try dsimp only at hW); go_simp; try (with_reducible rfl)

  refine wpAnyH_take (i := 27) (v := ?_) rfl (by kernel_rfl) (by kernel_rfl) (by kernel_rfl) (fun _ _ _ h => h) (Or.inl ⟨by rfl, ?_⟩) HS0 ?_
  rotate_left
  · intro W hW; (try dsimp only at hW); go_simp; try (with_reducible rfl)

  refine wpAnyH_take (i := 28) (v := ?_) rfl (by kernel_rfl) (by kernel_rfl) (by kernel_rfl) (fun _ _ _ h => h) (Or.inl ⟨by rfl, ?_⟩) HS0 ?_
  rotate_left
  · intro W hW; (try dsimp only at hW); go_simp; try (with_reducible rfl)

  refine wpAnyH_take (i := 29) (v := ?_) rfl (by kernel_rfl) (by kernel_rfl) (by kernel_rfl) (fun _ _ _ h => h) (Or.inl ⟨by rfl, ?_⟩) HS0 ?_
  rotate_left
  · intro W hW; (try dsimp only at hW); go_simp; try (with_reducible rfl)

  refine wpAnyH_take (i := 30) (v := ?_) rfl (by kernel_rfl) (by kernel_rfl) (by kernel_rfl) (fun _ _ _ h => h) (Or.inl ⟨by rfl, ?_⟩) HS0 ?_
  rotate_left
  · intro W hW; (try dsimp only at hW); go_simp; try (with_reducible rfl)

  refine wpAnyH_take (i := 31) (v := ?_) rfl (by kernel_rfl) (by kernel_rfl) (by kernel_rfl) (fun _ _ _ h => h) (Or.inl ⟨by rfl, ?_⟩) HS0 ?_
  rotate_left
  · intro W hW; (try dsimp only at hW); go_simp; try (with_reducible rfl)

  refine wpAnyH_take (i := 32) (v := ?_) rfl (by kernel_rfl) (by kernel_rfl) (by kernel_rfl) (fun _ _ _ h => h) (Or.inl ⟨by rfl, ?_⟩) HS0 ?_
  rotate_left
  · intro W hW; (try dsimp only at hW); go_simp; try (with_reducible rfl)

  refine wpAnyH_take (i := 33) (v := ?_) rfl (by kernel_rfl) (by kernel_rfl) (by kernel_rfl) (fun _ _ _ h => h) (Or.inl ⟨by rfl, ?_⟩) HS0 ?_
  rotate_left
  · intro W hW; (try dsimp only at hW); go_simp; try (with_reducible rfl)

  refine wpAnyH_take (i := 34) (v := ?_) rfl (by kernel_rfl) (by kernel_rfl) (by kernel_rfl) (fun _ _ _ h => h) (Or.inl ⟨by rfl, ?_⟩) HS0 ?_
  rotate_left
  · intro W hW; (try dsimp only at hW); go_simp; try (with_reducible rfl)

  refine wpAnyH_take (i := 35) (v := ?_) rfl (by kernel_rfl) (by kernel_rfl) (by kernel_rfl) (fun _ _ _ h => h) (Or.inl ⟨by rfl, ?_⟩) HS0 ?_
  rotate_left
  · intro W hW; (try dsimp only at hW); go_simp; try (with_reducible rfl)

  clear HS0
  refine wpAnyH_done (by kernel_rfl) ?_ _
  refine NoPanic.normal ?_
  go_wp2
  refine bodyPost_ret (v := .tuple #[.int .i64 (n * sxx - sx * sx), .int .i64 (n * sxy - sx * sy), .int .i64 (n * syy - sy * sy)]) (by simp [results, Tryz.results72, go_sem]; exact ⟨by rw [IntWalk.i64_in (n * sxx) (by omega), IntWalk.i64_in (sx * sx) (by omega), IntWalk.i64_in _ (by omega)], by rw [IntWalk.i64_in (n * sxy) (by omega), IntWalk.i64_in (sx * sy) (by omega), IntWalk.i64_in _ (by omega)], by rw [IntWalk.i64_in (n * syy) (by omega), IntWalk.i64_in (sy * sy) (by omega), IntWalk.i64_in _ (by omega)]⟩) rfl ⟨rfl, below_next HB0.out HBx0.out⟩
set_option maxHeartbeats 8000000 in
set_option maxRecDepth 100000 in
theorem jSquare_any (n : Int) (w : World) (h1 : -9000000000000000000 ≤ n) (h2 : n ≤ 9000000000000000000) :
    Calls Tryz.prog 105 #[.int .i64 n] w (NatPost (n.natAbs * n.natAbs) w) := by
  have HO := Lib.hid (fun W => natOf_any (max n (-n)) W (by omega))
  rw [show (max n (-n)).toNat = n.natAbs by omega] at HO
  have hlt : n.natAbs < W64 ^ 1 := by unfold W64; omega
  have HM := Lib.hid (fun W A1 A2 c1 c2 l1 l2 (h1 : NatR W A1 c1 l1 n.natAbs) (h2 : NatR W A2 c2 l2 n.natAbs) => natMul_any A1 A2 c1 c2 l1 l2 _ _ W h1 h2 (by have := h1.len hlt; omega) (by have := h2.len hlt; omega))
  obtain ⟨a, ha⟩ : ∃ a, a = n.natAbs := ⟨_, rfl⟩
  rw [← ha] at HO HM ⊢
  clear hlt ha
  go_enter Tryz.func105, Tryz.ntmps105
  go_wp2_with fail
  (with_reducible refine (HO.out _).mono ?_)
  rintro e w1 ⟨A1, c1, l1, rfl, hn1, hb1⟩
  have HN1 := Lib.hid hn1
  have HB1 := Lib.hid hb1
  clear hn1 hb1
  go_wp2_with fail
  (with_reducible refine (HO.out _).mono ?_)
  rintro e w2 ⟨A2, c2, l2, rfl, hn2, hb2⟩
  have HMM := Lib.hid (HM.out w2 A1 A2 c1 c2 l1 l2 (HN1.out.on hb2) hn2)
  have HB2 := Lib.hid (below_next HB1.out hb2)
  clear hn2 hb2
  go_wp2_with fail
  (with_reducible refine (HMM.out).mono ?_)
  rintro e w3 ⟨A3, c3, l3, rfl, hn3, hb3⟩
  have HF := Lib.hid (show NatR w3 A3 c3 l3 (a * a) ∧ Below w.heap.size w w3 from ⟨hn3, below_next HB2.out hb3⟩)
  clear hn3 hb3
  go_wp2
  refine bodyPost_ret (v := .slice A3 l3.length c3) (by simp [results, Tryz.results105, go_sem]) rfl ⟨A3, c3, l3, rfl, HF.out.1, HF.out.2⟩
end Go.Proofs.YtpmnhdgajkickaaGreatDoor

/- Package judge: the sums of points in memory. -/
namespace Go.Proofs.YtpmnhdgajkickaaGreatDoor
open Go Go.RowKit Go.Proofs

/-- these are the sums of the points l -/
def MomIs (l : List (Int × Int)) (v0 v1 v2 v3 v4 v5 : Int) : Prop := v0 = (l.length : Nat) ∧ v1 = pX l ∧ v2 = pY l ∧ v3 = pXX l ∧ v4 = pXY l ∧ v5 = pYY l
def MBox (w : World) (B : Nat) (l : List (Int × Int)) : Prop := ∃ v0 v1 v2 v3 v4 v5 : Int, w.heap[B]? = some (.cells #[.int .i64 v0, .int .i64 v1, .int .i64 v2, .int .i64 v3, .int .i64 v4, .int .i64 v5] 89 (0, 0)) ∧ MomIs l v0 v1 v2 v3 v4 v5
theorem MBox.on {w w' : World} {B : Nat} {l : List (Int × Int)} (h : MBox w B l) (hb : Below w.heap.size w w') : MBox w' B l := by
  obtain ⟨v0, v1, v2, v3, v4, v5, e, h⟩ := h
  exact ⟨v0, v1, v2, v3, v4, v5, (hb.block B (heap_lt e)).trans e, h⟩
theorem MBox.lt {w : World} {B : Nat} {l : List (Int × Int)} (h : MBox w B l) : B < w.heap.size := by
  obtain ⟨v0, v1, v2, v3, v4, v5, e, h⟩ := h
  exact heap_lt e
theorem mcells {w : World} {B : Nat} {v0 v1 v2 v3 v4 v5 : Value} (e : w.heap[B]? = some (.cells #[v0, v1, v2, v3, v4, v5] 89 (0, 0))) : w.cell? ⟨B, 0, none⟩ = some v0 ∧ w.cell? ⟨B, 1, none⟩ = some v1 ∧ w.cell? ⟨B, 2, none⟩ = some v2 ∧ w.cell? ⟨B, 3, none⟩ = some v3 ∧ w.cell? ⟨B, 4, none⟩ = some v4 ∧ w.cell? ⟨B, 5, none⟩ = some v5 ∧ w.frozen? ⟨B, 0, none⟩ = false ∧ w.frozen? ⟨B, 1, none⟩ = false ∧ w.frozen? ⟨B, 2, none⟩ = false ∧ w.frozen? ⟨B, 3, none⟩ = false ∧ w.frozen? ⟨B, 4, none⟩ = false ∧ w.frozen? ⟨B, 5, none⟩ = false ∧ B < w.heap.size :=
  ⟨by rw [cellsAt e]; rfl, by rw [cellsAt e]; rfl, by rw [cellsAt e]; rfl, by rw [cellsAt e]; rfl, by rw [cellsAt e]; rfl, by rw [cellsAt e]; rfl, frozenAt e 0, frozenAt e 1, frozenAt e 2, frozenAt e 3, frozenAt e 4, frozenAt e 5, heap_lt e⟩
def mset (w : World) (B : Nat) (u0 u1 u2 u3 u4 u5 : Value) : World := (((((w.setCell ⟨B, 0, none⟩ u0).setCell ⟨B, 1, none⟩ u1).setCell ⟨B, 2, none⟩ u2).setCell ⟨B, 3, none⟩ u3).setCell ⟨B, 4, none⟩ u4).setCell ⟨B, 5, none⟩ u5
theorem mset_at {w : World} {B : Nat} {v0 v1 v2 v3 v4 v5 u0 u1 u2 u3 u4 u5 : Value} (e : w.heap[B]? = some (.cells #[v0, v1, v2, v3, v4, v5] 89 (0, 0))) : (mset w B u0 u1 u2 u3 u4 u5).heap[B]? = some (.cells #[u0, u1, u2, u3, u4, u5] 89 (0, 0)) := by
  unfold mset
  simp [World.setCell, Array.getElem?_modify, e]
theorem mset_below {w0 w : World} {B : Nat} {u0 u1 u2 u3 u4 u5 : Value} (h : Below w0.heap.size w0 w) (hB : w0.heap.size ≤ B) : Below w0.heap.size w0 (mset w B u0 u1 u2 u3 u4 u5) :=
  (((((h.setCell (p := ⟨B, 0, none⟩) hB _).setCell (p := ⟨B, 1, none⟩) hB _).setCell (p := ⟨B, 2, none⟩) hB _).setCell (p := ⟨B, 3, none⟩) hB _).setCell (p := ⟨B, 4, none⟩) hB _).setCell (p := ⟨B, 5, none⟩) hB _
theorem mset_far {w : World} {B k : Nat} {u0 u1 u2 u3 u4 u5 : Value} (h : k ≠ B) : (mset w B u0 u1 u2 u3 u4 u5).heap[k]? = w.heap[k]? := by
  unfold mset
  rw [Below.heap_setCell _ ⟨B, 5, none⟩ _ k h, Below.heap_setCell _ ⟨B, 4, none⟩ _ k h, Below.heap_setCell _ ⟨B, 3, none⟩ _ k h, Below.heap_setCell _ ⟨B, 2, none⟩ _ k h, Below.heap_setCell _ ⟨B, 1, none⟩ _ k h, Below.heap_setCell _ ⟨B, 0, none⟩ _ k h]
/-- one point more -/
theorem jMomNext {l : List (Int × Int)} {k : Nat} {x y v0 v1 v2 v3 v4 v5 : Int} (hok : OkP l) (hn : l.length ≤ 300) (h : l[k]? = some (x, y)) (hm : MomIs (l.take k) v0 v1 v2 v3 v4 v5) : ∃ u0 u1 u2 u3 u4 u5 : Int, MomIs (l.take (k + 1)) u0 u1 u2 u3 u4 u5 ∧ ∀ w : World,
    Calls Tryz.prog 71 #[.agg #[.int .i64 v0, .int .i64 v1, .int .i64 v2, .int .i64 v3, .int .i64 v4, .int .i64 v5], .int .i64 x, .int .i64 y] w fun e w' => e = .returned (.agg #[.int .i64 u0, .int .i64 u1, .int .i64 u2, .int .i64 u3, .int .i64 u4, .int .i64 u5]) ∧ Below w.heap.size w w' := by
  obtain ⟨rfl, rfl, rfl, rfl, rfl, rfl⟩ := hm
  have hk := (List.getElem?_eq_some_iff.1 h).1
  have hb := bndP (hok.take k) (by rw [List.length_take]; omega)
  obtain ⟨p1, p2⟩ := hok (x, y) (List.mem_of_getElem? h)
  obtain ⟨s1, s2, s3, s4, s5⟩ := sums_next h
  have hl : ((l.take (k + 1)).length : Int) = ((l.take k).length : Int) + 1 := by rw [List.length_take, List.length_take]; omega
  refine ⟨_, _, _, _, _, _, ⟨rfl, rfl, rfl, rfl, rfl, rfl⟩, fun w => ?_⟩
  rw [hl, s1, s2, s3, s4, s5]
  have b0 := hb.n
  exact jMomAdd_any _ _ _ _ _ _ x y w (by omega) (by omega) (by have := hb.x1; omega) (by have := hb.x2; omega) (by have := hb.y1; omega) (by have := hb.y2; omega) (by have := hb.xx1; omega) (by have := hb.xx2; omega) (by have := hb.xy1; omega) (by have := hb.xy2; omega) (by have := hb.yy1; omega) (by have := hb.yy2; omega) p1.1 p1.2 p2.1 p2.2
theorem jMomSpr {l : List (Int × Int)} {v0 v1 v2 v3 v4 v5 : Int} (hb : BndP l) (hm : MomIs l v0 v1 v2 v3 v4 v5) (w : World) :
    Calls Tryz.prog 72 #[.agg #[.int .i64 v0, .int .i64 v1, .int .i64 v2, .int .i64 v3, .int .i64 v4, .int .i64 v5]] w fun e w' => e = .returned (.tuple #[.int .i64 (vXX l), .int .i64 (vXY l), .int .i64 (vYY l)]) ∧ Below w.heap.size w w' := by
  obtain ⟨rfl, rfl, rfl, rfl, rfl, rfl⟩ := hm
  have b0 := hb.n
  exact jMomSpr_any ((l.length : Nat) : Int) (pX l) (pY l) (pXX l) (pXY l) (pYY l) w (by omega) (by omega) hb.x1 hb.x2 hb.y1 hb.y2 hb.xx1 hb.xx2 hb.xy1 hb.xy2 hb.yy1 hb.yy2
theorem mom_nil : MomIs [] 0 0 0 0 0 0 := ⟨rfl, rfl, rfl, rfl, rfl, rfl⟩
theorem JQ.keep {w W : World} {v : Value} {p : Rat} {n B : Nat} {cs : Array Value} {t : TypeId} (h : JQ w v p n) (hB : w.heap[B]? = some (.cells cs t (0, 0))) (hcs : ∀ v ∈ cs.toList, ∀ z, v ≠ .int .u64 z) (hf : Fr (fun i => i = B) w W) : JQ W v p n := by
  obtain ⟨b, x, y, ⟨A1, c1, l1, A2, c2, l2, rfl, h1, h2⟩, h3⟩ := h
  exact ⟨b, x, y, ⟨A1, c1, l1, A2, c2, l2, rfl, h1.keepB hf.size (fun b o e hlt hl => hf.block b hlt (h1.apartB hB hcs b o e hl)), h2.keepB hf.size (fun b o e hlt hl => hf.block b hlt (h2.apartB hB hcs b o e hl))⟩, h3⟩
end Go.Proofs.YtpmnhdgajkickaaGreatDoor
