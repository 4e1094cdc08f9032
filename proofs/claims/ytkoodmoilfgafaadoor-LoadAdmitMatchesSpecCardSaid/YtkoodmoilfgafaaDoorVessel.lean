/- Package load: the vessel: fill, take. -/
import Derived.Test.YtkoodmoilfgafaaDoorGFit
import Derived.StillTailTactics
namespace Go.Proofs.YtkoodmoilfgafaaDoor
open Go Go.RowKit Go.Proofs

/-- block P is a vessel -/
def Vsl (w : World) (P : Nat) (R r h a : Int) : Prop := w.heap[P]? = some (.cells #[.int .i64 R, .int .i64 r, .int .i64 h, .int .i64 a] 71 (0, 0))
theorem Vsl.cells {w : World} {P : Nat} {R r h a : Int} (v : Vsl w P R r h a) : w.cell? ⟨P, 0, none⟩ = some (.int .i64 R) ∧ w.cell? ⟨P, 1, none⟩ = some (.int .i64 r) ∧ w.cell? ⟨P, 2, none⟩ = some (.int .i64 h) ∧ w.cell? ⟨P, 3, none⟩ = some (.int .i64 a) ∧ w.frozen? ⟨P, 2, none⟩ = false ∧ w.frozen? ⟨P, 3, none⟩ = false :=
  ⟨by rw [cellsAt v]; rfl, by rw [cellsAt v]; rfl, by rw [cellsAt v]; rfl, by rw [cellsAt v]; rfl, frozenAt v 2, frozenAt v 3⟩
theorem Vsl.drewN {w : World} {P : Nat} {R r h a : Int} (v : Vsl w P R r h a) (n : Nat) : Vsl (w.drewN n) P R r h a := v
theorem Vsl.set2 {w : World} {P : Nat} {R r h a : Int} (v : Vsl w P R r h a) (x : Int) : Vsl (w.setCell ⟨P, 2, none⟩ (.int .i64 x)) P R r x a := by
  unfold Vsl at *; simp [World.setCell, Array.getElem?_modify, v]
theorem Vsl.set3 {w : World} {P : Nat} {R r h a : Int} (v : Vsl w P R r h a) (x : Int) : Vsl (w.setCell ⟨P, 3, none⟩ (.int .i64 x)) P R r h x := by
  unfold Vsl at *; simp [World.setCell, Array.getElem?_modify, v]
theorem Vsl.conv {w : World} {P : Nat} {R r h a h' a' : Int} (v : Vsl w P R r h a) (e1 : h = h') (e2 : a = a') : Vsl w P R r h' a' := by subst e1 e2; exact v
theorem frP_set {P : Nat} {w w' : World} (h : Fr (fun i => i = P) w w') (j : Nat) (u : Value) : Fr (fun i => i = P) w (w'.setCell ⟨P, j, none⟩ u) := h.setCell (fun _ => rfl) u

set_option maxHeartbeats 2000000 in
set_option maxRecDepth 100000 in
theorem fill_any (P : Nat) (R r h a t : Int) (w : World) (hv : Vsl w P R r h a) (hr0 : 0 ≤ r) (hr1 : r ≤ 1000000000) (h0 : 0 ≤ h) (h1 : h ≤ R) (hR : R ≤ 1000000000000000) (ha0 : 0 ≤ a) (ha1 : a ≤ 1000000000000000) (ht0 : 0 ≤ t) (ht1 : t ≤ 1000000000000000) :
    Calls Tryd.prog 93 #[.pointer (some ⟨P, 0, none⟩), .int .i64 t] w fun e w' => e = .returned (.tuple #[]) ∧ Vsl w' P R r (fillS R r (h, a) t).1 (fillS R r (h, a) t).2 ∧ Fr (fun i => i = P) w w' := by
  obtain ⟨k0, k1, k2, k3, z2, z3⟩ := hv.cells
  have HV := Lib.hid hv
  have hP : P < w.heap.size := heap_lt hv
  clear hv
  by_cases g1 : 0 < r
  · have t1 : decide (0 < r) = true := by simpa using g1
    by_cases g2 : a < t
    · have t2 : decide (a < t) = true := by simpa using g2
      have hq0 : 0 ≤ (R - h) / r := Int.ediv_nonneg (by omega) (by omega)
      have hq : (R - h).tdiv r = (R - h) / r := Int.tdiv_eq_ediv_of_nonneg (by omega)
      have hq1 : (R - h) / r ≤ 1000000000000000 := Int.le_trans (Int.ediv_le_self _ (by omega)) (by omega)
      by_cases g3 : (R - h) / r < t - a
      · have t3 : decide ((R - h) / r < t - a) = true := by simpa using g3
        have HF := Lib.hid (show fillS R r (h, a) t = (R, max a t) by unfold fillS; simp only; rw [if_pos ⟨g1, g2⟩, if_pos g3])
        go_enter Tryd.func93, Tryd.ntmps93
        go_wp2
        go_quiet (fail)
        go_wp2
        go_quiet (fail)
        go_wp2
        go_end0
        rw [HF.out]
        exact ⟨rfl, (((HV.out.drewN _).set2 _).set3 _).conv rfl (by simp only; omega), frP_set (frP_set ((Fr.refl _ w).drewN _) 2 _) 3 _⟩
      · have t3 : decide ((R - h) / r < t - a) = false := by simpa using g3
        have HF := Lib.hid (show fillS R r (h, a) t = (h + r * (t - a), max a t) by unfold fillS; simp only; rw [if_pos ⟨g1, g2⟩, if_neg g3])
        have hp : r * (t - a) ≤ R - h := Int.le_trans (Int.mul_le_mul_of_nonneg_left (show t - a ≤ (R - h) / r by omega) hr0) (ediv_lo g1).1
        have hp0 : 0 ≤ r * (t - a) := Int.mul_nonneg hr0 (by omega)
        go_enter Tryd.func93, Tryd.ntmps93
        go_wp2
        go_quiet (fail)
        go_wp2
        go_quiet (fail)
        go_wp2
        go_region
        all_goals go_wp2
        all_goals go_end0
        all_goals rw [HF.out]
        all_goals exact ⟨rfl, (((HV.out.drewN _).set2 _).set3 _).conv rfl (by simp only; omega), frP_set (frP_set ((Fr.refl _ w).drewN _) 2 _) 3 _⟩
    · have t2 : decide (a < t) = false := by simpa using g2
      have HF := Lib.hid (show fillS R r (h, a) t = (h, max a t) by unfold fillS; simp only; rw [if_neg (fun h => g2 h.2)])
      go_enter Tryd.func93, Tryd.ntmps93
      go_wp2
      go_end0
      rw [HF.out]
      exact ⟨rfl, (HV.out.set3 _).conv rfl (by simp only; omega), frP_set (Fr.refl _ w) 3 _⟩
  · obtain rfl : r = 0 := by omega
    have HF := Lib.hid (show fillS R 0 (h, a) t = (h, max a t) by unfold fillS; simp only; rw [if_neg (fun h => g1 h.1)])
    go_enter Tryd.func93, Tryd.ntmps93
    go_wp2
    all_goals go_end0
    all_goals rw [HF.out]
    all_goals exact ⟨rfl, (HV.out.set3 _).conv rfl (by simp only; omega), frP_set (Fr.refl _ w) 3 _⟩

/-- what take tells -/
def takeV (o : Option (Int × Int)) : Value := match o with
  | none => .tuple #[.int .i64 0, .bool false]
  | some s => .tuple #[.int .i64 s.2, .bool true]
theorem ceil_le {m r : Int} (hr : 1 ≤ r) (hm : 1 ≤ m) : 1 ≤ (m + r - 1) / r ∧ (m + r - 1) / r ≤ m := by
  refine ⟨(Int.le_ediv_iff_mul_le (by omega)).2 (by omega), ?_⟩
  have h : (m + r - 1) / r < m + 1 := (Int.ediv_lt_iff_lt_mul (by omega)).2 (by
    have := Int.mul_le_mul_of_nonneg_left (show (1 : Int) ≤ r by omega) (show 0 ≤ m by omega)
    rw [Int.add_mul]; omega)
  omega

set_option maxHeartbeats 2000000 in
set_option maxRecDepth 100000 in
theorem take_any (P : Nat) (R r h a t : Int) (w : World) (hv : Vsl w P R r h a) (hr0 : 0 ≤ r) (hr1 : r ≤ 1000000000) (h0 : 0 ≤ h) (h1 : h ≤ R) (hR1 : 1000000000 ≤ R) (hR : R ≤ 1000000000000000) (ha0 : 0 ≤ a) (ha1 : a ≤ 100000000000000) (ht0 : 0 ≤ t) (ht1 : t ≤ 1000000000000) :
    Calls Tryd.prog 54 #[.pointer (some ⟨P, 0, none⟩), .int .i64 t] w fun e w' => e = .returned (takeV (takeS R r (h, a) t)) ∧ (∀ s, takeS R r (h, a) t = some s → Vsl w' P R r s.1 s.2) ∧ Fr (fun i => i = P) w w' := by
  obtain ⟨f1, f2, f3, f4, f5⟩ := fill_bd (a := a) (t := t) hr0 h1
  have HF1 := Lib.hid (fill_any P R r h a t w hv hr0 hr1 h0 h1 hR ha0 (by omega) ht0 (by omega))
  have f6 : (fillS R r (h, a) t).2 ≤ max a t := Int.le_refl _
  have HT := Lib.hid (takeS.eq_1 R r (h, a) t)
  obtain ⟨⟨hh, aa⟩, hs⟩ : ∃ s, s = fillS R r (h, a) t := ⟨_, rfl⟩
  rw [← hs] at f1 f2 f3 f4 f5 f6 HF1 HT
  simp only at f1 f2 f3 f4 f5 f6 HF1 HT
  have hP : P < w.heap.size := heap_lt hv
  clear hs hv
  by_cases g1 : 0 < 1000000000 - hh
  · have t1 : decide (0 < 1000000000 - hh) = true := by simpa using g1
    by_cases g2 : r = 0
    · have t2 : (r == 0) = true := by simpa using g2
      rw [if_pos g1, if_pos g2] at HT
      go_enter Tryd.func54, Tryd.ntmps54
      go_wp2_with fail
      refine HF1.out.mono ?_
      rintro e w1 ⟨rfl, hv1, hfr1⟩
      obtain ⟨k0, k1, k2, k3, z2, z3⟩ := hv1.cells
      go_wp2
      go_ret2
      refine ⟨by rw [HT.out]; rfl, ?_, hfr1⟩
      rw [HT.out]
      intro s hs; cases hs
    · have t2 : (r == 0) = false := by simpa using g2
      rw [if_pos g1, if_neg g2] at HT
      have hc := ceil_le (m := 1000000000 - hh) (r := r) (by omega) (by omega)
      have hq : (1000000000 - hh + r - 1).tdiv r = (1000000000 - hh + r - 1) / r := Int.tdiv_eq_ediv_of_nonneg (by omega)
      obtain ⟨Q, hQ⟩ : ∃ Q, Q = (1000000000 - hh + r - 1) / r := ⟨_, rfl⟩
      rw [← hQ] at hc hq HT
      have g3 := fill_bd (R := R) (r := r) (h := hh) (a := aa) (t := aa + Q) hr0 f2
      have HF2 := Lib.hid (fun W (hv : Vsl W P R r hh aa) => fill_any P R r hh aa (aa + Q) W hv hr0 hr1 (by omega) f2 hR (by omega) (by omega) (by omega) (by omega))
      obtain ⟨⟨h2, a2⟩, hs2⟩ : ∃ s, s = fillS R r (hh, aa) (aa + Q) := ⟨_, rfl⟩
      rw [← hs2] at HF2 HT g3
      simp only at HF2 HT g3
      clear hs2 hQ
      go_enter Tryd.func54, Tryd.ntmps54
      go_wp2_with fail
      refine HF1.out.mono ?_
      rintro e w1 ⟨rfl, hv1, hfr1⟩
      obtain ⟨k0, k1, k2, k3, z2, z3⟩ := hv1.cells
      have HV1 := Lib.hid hv1
      have HFR1 := Lib.hid hfr1
      have hs1 := hfr1.size
      clear hv1 hfr1
      go_wp2_with fail
      refine wp_region_still_tail 18 (show Tryd.prog.follows .mixedOrders = true by kernel_rfl) (by kernel_rfl) ?_
      simp only [List.take_succ_cons, List.take_zero, List.drop_succ_cons, List.drop_zero]
      repeat still_step
      refine wpStill_nil ?_
      change wpList _ _ _ _ _ w1.drew
      go_wp2_with fail
      rw [hq]
      refine (HF2.out w1.drew HV1.out).mono ?_
      rintro e w2 ⟨rfl, hv2, hfr2⟩
      have HFR2 := Lib.hid (HFR1.out.drew.trans hfr2 (fun _ _ h => h))
      obtain ⟨k0, k1, k2, k3, z2, z3⟩ := hv2.cells
      have HV2 := Lib.hid hv2
      clear hfr2 hv2
      go_wp2
      go_ret2
      refine ⟨by rw [HT.out]; rfl, ?_, frP_set HFR2.out 2 _⟩
      rw [HT.out]
      intro s hs
      obtain rfl := Option.some.inj hs
      exact (HV2.out.set2 _).conv rfl rfl
  · have t1 : decide (0 < 1000000000 - hh) = false := by simpa using g1
    rw [if_neg g1] at HT
    go_enter Tryd.func54, Tryd.ntmps54
    go_wp2_with fail
    refine HF1.out.mono ?_
    rintro e w1 ⟨rfl, hv1, hfr1⟩
    obtain ⟨k0, k1, k2, k3, z2, z3⟩ := hv1.cells
    have HV1 := Lib.hid hv1
    have HFR1 := Lib.hid hfr1
    have hs1 := hfr1.size
    clear hv1 hfr1
    go_wp2
    go_ret2
    refine ⟨by rw [HT.out]; rfl, ?_, frP_set HFR1.out 2 _⟩
    rw [HT.out]
    intro s hs
    obtain rfl := Option.some.inj hs
    exact (HV1.out.set2 _).conv rfl rfl
end Go.Proofs.YtkoodmoilfgafaaDoor
