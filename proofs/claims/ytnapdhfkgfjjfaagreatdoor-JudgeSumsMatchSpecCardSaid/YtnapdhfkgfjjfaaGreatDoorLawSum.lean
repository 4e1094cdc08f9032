/- JudgeSumsMatchSpec: the law's walk. -/
import Derived.Test.YtnapdhfkgfjjfaaGreatDoorG32
import Derived.Test.YtnapdhfkgfjjfaaGreatDoorRkV
namespace Go.Proofs.YtnapdhfkgfjjfaaGreatDoor
open Go Go.RowKit Go.Proofs

set_option maxHeartbeats 8000000 in
set_option maxRecDepth 100000 in
theorem lawSum_any (A B : Option Addr) (c d : Nat) (a b : List Int) (w : World) (htab : Tab w.heap.size w) (hr1 : Rd w 0 w.heap.size 1 A a.length (ints a)) (hr2 : Rd w 0 w.heap.size 1 B b.length (ints b)) (hc1 : a.length ≤ c) (hc2 : b.length ≤ d) (hm1 : a.length ≤ 4000000000000000000) (hm2 : b.length ≤ 4000000000000000000) :
    Calls Tryz.prog 4 #[.slice A a.length c, .slice B b.length d] w fun e w' => e = .returned (.bool true) ∧ Below w.heap.size w w' := by
  have HH := Lib.hid (fun W (hW : Below w.heap.size w W) => halves_any W ((htab.on hW).mono hW.size))
  have HJ1 := Lib.hid (fun W (hW : Below w.heap.size w W) => (jSums_any A B c d a b W (hr1.old hW) (hr2.old hW) hc1 hc2 hm1 hm2).mono fun e w' h => smP_val h)
  have HR1 := Lib.hid (fun W (hW : Below w.heap.size w W) => (rSums_any A B c d a b W (hr1.old hW) (hr2.old hW) hm1 hm2).mono fun e w' h => smP_val h)
  have HJ2 := Lib.hid (fun W (hW : Below w.heap.size w W) => jSigns_any A B c d a b W (hr1.old hW) (hr2.old hW) hm1 hm2)
  have HR2 := Lib.hid (fun W (hW : Below w.heap.size w W) => rSigns_any A B c d a b W (hr1.old hW) (hr2.old hW) hm1 hm2)
  obtain ⟨v0, v1, v2, v3, vc, hv⟩ := smV_shape a b
  obtain ⟨u0, u1, u2, u3, uc, hu⟩ := sgW_shape a b
  rw [hv] at HJ1 HR1
  rw [hu] at HJ2 HR2
  clear hv hu htab hr1 hr2
  go_enter Tryz.func4, Tryz.ntmps4
  go_wp2_with fail
  (with_reducible refine (HJ1.out _ (Below.refl _ _)).mono ?_)
  rintro e w1 ⟨rfl, hb1⟩
  obtain ⟨W2, hW2⟩ : ∃ W2, W2 = w1.alloc (.cells #[.int .i64 v0, .int .i64 v1, .int .i64 v2, .int .i64 v3] 24) := ⟨_, rfl⟩
  have hb12 : Below w1.heap.size w1 W2 := by rw [hW2]; exact (Below.refl _ w1).alloc (Nat.le_refl _) _
  have HX1 := Lib.hid (show R4 W2 w1.heap.size v0 v1 v2 v3 by rw [hW2]; exact alloc_at _ _ _ rfl)
  have HB2 := Lib.hid (below_next hb1 hb12)
  have HO1 := Lib.hid hb1.size
  clear hb1 hb12
  go_wp2_with fail
  rw [← hW2]
  obtain ⟨B1, hB1⟩ : ∃ B, B = w1.heap.size := ⟨_, rfl⟩
  rw [← hB1] at HX1 HO1 ⊢
  clear hW2 hB1
  (with_reducible refine (HR1.out _ HB2.out).mono ?_)
  rintro e w3 ⟨rfl, hb3⟩
  obtain ⟨W4, hW4⟩ : ∃ W4, W4 = w3.alloc (.cells #[.int .i64 v0, .int .i64 v1, .int .i64 v2, .int .i64 v3] 24) := ⟨_, rfl⟩
  have hb34 : Below w3.heap.size w3 W4 := by rw [hW4]; exact (Below.refl _ w3).alloc (Nat.le_refl _) _
  have e1 := HX1.out.on (below_next hb3 hb34)
  have e2 : R4 W4 w3.heap.size v0 v1 v2 v3 := by rw [hW4]; exact alloc_at _ _ _ rfl
  have HX4 := Lib.hid e1
  have HY4 := Lib.hid e2
  have HB4 := Lib.hid (below_next HB2.out (below_next hb3 hb34))
  have HO2 := Lib.hid (show w.heap.size ≤ w3.heap.size from (below_next HB2.out hb3).size)
  have HNE := Lib.hid (show B1 ≠ w3.heap.size by have := heap_lt (HX1.out.on hb3); omega)
  obtain ⟨k0, k1, k2, k3⟩ := e1.cells
  obtain ⟨j0, j1, j2, j3⟩ := e2.cells
  rw [hW4] at k0 k1 k2 k3 j0 j1 j2 j3
  clear hb3 hb34 e1 e2
  go_wp2_with fail
  rw [← hW4]
  obtain ⟨B2, hB2⟩ : ∃ B, B = w3.heap.size := ⟨_, rfl⟩
  rw [← hB2] at HY4 HO2 HNE ⊢
  clear hW4 hB2 k0 k1 k2 k3 j0 j1 j2 j3
  (with_reducible refine (HJ2.out _ HB4.out).mono ?_)
  rintro e w5 ⟨rfl, hb5⟩
  have hx5 := HX4.out.on hb5
  have HY5 := Lib.hid (HY4.out.on hb5)
  have z0 := frozenAt hx5 0
  have z1 := frozenAt hx5 1
  have z2 := frozenAt hx5 2
  have z3 := frozenAt hx5 3
  have hl5 := heap_lt hx5
  obtain ⟨k0, k1, k2, k3⟩ := hx5.cells
  obtain ⟨W6, hW6⟩ : ∃ W, W = (((w5.setCell ⟨B1, 0, none⟩ (.int .i64 u0)).setCell ⟨B1, 1, none⟩ (.int .i64 u1)).setCell ⟨B1, 2, none⟩ (.int .i64 u2)).setCell ⟨B1, 3, none⟩ (.int .i64 u3) := ⟨_, rfl⟩
  have HX6 := Lib.hid (show R4 W6 B1 u0 u1 u2 u3 by rw [hW6]; exact hx5.put _ _ _ _)
  have HY6 := Lib.hid (show R4 W6 B2 v0 v1 v2 v3 by rw [hW6]; exact HY5.out.far (Ne.symm HNE.out) _ _ _ _)
  have HB6 := Lib.hid (show Below w.heap.size w W6 by rw [hW6]; exact R4.below (below_next HB4.out hb5) HO1.out _ _ _ _)
  clear hx5 hb5
  go_wp2_with fail
  rw [← hW6]
  clear hW6 z0 z1 z2 z3 hl5 k0 k1 k2 k3
  (with_reducible refine (HR2.out _ HB6.out).mono ?_)
  rintro e w7 ⟨rfl, hb7⟩
  have hy7 := HY6.out.on hb7
  have z0 := frozenAt hy7 0
  have z1 := frozenAt hy7 1
  have z2 := frozenAt hy7 2
  have z3 := frozenAt hy7 3
  have hl7 := heap_lt hy7
  obtain ⟨y0, y1, y2, y3⟩ := hy7.cells
  obtain ⟨W8, hW8⟩ : ∃ W, W = (((w7.setCell ⟨B2, 0, none⟩ (.int .i64 u0)).setCell ⟨B2, 1, none⟩ (.int .i64 u1)).setCell ⟨B2, 2, none⟩ (.int .i64 u2)).setCell ⟨B2, 3, none⟩ (.int .i64 u3) := ⟨_, rfl⟩
  have hx8 : R4 W8 B1 u0 u1 u2 u3 := by rw [hW8]; exact (HX6.out.on hb7).far HNE.out _ _ _ _
  have hy8 : R4 W8 B2 u0 u1 u2 u3 := by rw [hW8]; exact hy7.put _ _ _ _
  have HB8 := Lib.hid (show Below w.heap.size w W8 by rw [hW8]; exact R4.below (below_next HB6.out hb7) HO2.out _ _ _ _)
  obtain ⟨k0, k1, k2, k3⟩ := hx8.cells
  obtain ⟨j0, j1, j2, j3⟩ := hy8.cells
  rw [hW8] at k0 k1 k2 k3 j0 j1 j2 j3
  clear hy7 hb7 hx8 hy8
  go_wp2_with fail
  rw [← hW8]
  clear hW8 y0 y1 y2 y3 k0 k1 k2 k3 j0 j1 j2 j3
  (with_reducible refine (HH.out _ HB8.out).mono ?_)
  rintro e w9 ⟨rfl, hb9⟩
  have HB9 := Lib.hid (below_next HB8.out hb9)
  clear hb9
  go_wp2
  go_ret
  exact ⟨by rfl, HB9.out⟩
end Go.Proofs.YtnapdhfkgfjjfaaGreatDoor
