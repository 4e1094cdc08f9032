/- Package dynamometerref7: reached. -/
import Derived.Test.YtkoodmoilfgafaaGreatDoorGFrac
import Derived.Test.YtkoodmoilfgafaaGreatDoorGLoad
namespace Go.Proofs.YtkoodmoilfgafaaGreatDoor
open Go Go.RowKit Go.Proofs

/-- twice the length times the area behind a place of a stage (without what is ahead), its two parts -/
def lftN (F x p : Int) : Nat := (2 * F).toNat * x.toNat * p.toNat
def sqrN (x y p : Int) : Nat := (max (y - x) (x - y)).toNat * (p.toNat * p.toNat)
/-- what reached tells of a place -/
def rchB (F x y p : Int) (q : Rat) : Bool :=
  if x ≤ y then decide (frN q ≤ (lftN F x p + sqrN x y p) * q.den) else decide (frN q + sqrN x y p * q.den ≤ lftN F x p * q.den)
theorem mul_len {w w1 w2 : World} {A1 A2 A3 : Option Addr} {c1 c2 c3 : Nat} {l1 l2 l3 : List Nat} {x y : Nat} (h1 : RNatR w1 A1 c1 l1 x) (h2 : RNatR w2 A2 c2 l2 y) (h3 : RNatR w A3 c3 l3 (x * y)) : l3.length ≤ l1.length + l2.length :=
  h3.len (by rw [Nat.pow_add]; exact Nat.mul_lt_mul'' (rval_lt h1.norm h1.val) (rval_lt h2.norm h2.val))
theorem add_len {w w1 w2 : World} {A1 A2 A3 : Option Addr} {c1 c2 c3 : Nat} {l1 l2 l3 : List Nat} {x y : Nat} (h1 : RNatR w1 A1 c1 l1 x) (h2 : RNatR w2 A2 c2 l2 y) (h3 : RNatR w A3 c3 l3 (x + y)) : l3.length ≤ l1.length + l2.length + 1 :=
  h3.len (by
    have hx := rval_lt h1.norm h1.val
    have hy := rval_lt h2.norm h2.val
    have g1 : T4 ^ l1.length ≤ T4 ^ (l1.length + l2.length) := Nat.pow_le_pow_right (by unfold T4; omega) (by omega)
    have g2 : T4 ^ l2.length ≤ T4 ^ (l1.length + l2.length) := Nat.pow_le_pow_right (by unfold T4; omega) (by omega)
    have g3 : T4 ^ (l1.length + l2.length + 1) = T4 ^ (l1.length + l2.length) * 10000 := Nat.pow_succ T4 (l1.length + l2.length)
    omega)
theorem rnatCmpB_any (A1 A2 : Option Addr) (c1 c2 : Nat) (l1 l2 : List Nat) (x y : Nat) (w : World) (h1 : RNatR w A1 c1 l1 x) (h2 : RNatR w A2 c2 l2 y) (hs : l1.length ≤ 1000000) (hs2 : l2.length ≤ 1000000) :
    Calls Tryz.prog 56 #[.slice A1 l1.length c1, .slice A2 l2.length c2] w fun e w' => e = .returned (.int .i64 (cmpN x y)) ∧ Below w.heap.size w w' :=
  (rnatCmp_any A1 A2 c1 c2 l1 l2 x y w h1 h2 hs hs2).mono fun e w' ⟨he, q, hq⟩ => ⟨he, by rw [hq]; exact below_drewN (Below.refl _ w) q⟩
theorem cmp_ge {x y : Nat} : decide (0 ≤ cmpN x y) = decide (y ≤ x) := by
  unfold cmpN
  split
  · simp; omega
  · split
    · simp; omega
    · simp; omega

set_option maxHeartbeats 8000000 in
set_option maxRecDepth 100000 in
theorem r7Reached_any (n : Nat) (F x y p : Int) (v : Value) (q : Rat) (w : World) (hn : n ≤ 300000) (hS : OkS (F, x, y)) (hp0 : 0 ≤ p) (hp : p ≤ 100000000000) (hv : FracR w v q) (hq : Sz n q) :
    Calls Tryz.prog 130 #[.agg #[.int .i64 F, .int .i64 x, .int .i64 y], .int .i64 p, v] w fun e w' => e = .returned (.bool (rchB F x y p q)) ∧ Below w.heap.size w w' := by
  obtain ⟨A1, c1, l1, A2, c2, l2, rfl, hv1, hv2⟩ := hv
  have e1 := hv1.len hq.1
  have e2 := hv2.len hq.2
  obtain ⟨o1, o2, o3, o4, o5, o6⟩ := hS
  simp only at o1 o2 o3 o4 o5 o6
  obtain ⟨W0, hW0⟩ : ∃ W0, W0 = (w.alloc (.cells #[.int .i64 F, .int .i64 x, .int .i64 y] 55)).alloc (.cells #[.bool (frS q), .slice A1 l1.length c1, .slice A2 l2.length c2] 39) := ⟨_, rfl⟩
  have HST0 := Lib.hid (show St w W0 [(w.heap.size, .cells #[.int .i64 F, .int .i64 x, .int .i64 y] 55 (0, 0)), (w.heap.size + 1, .cells #[.bool (frS q), .slice A1 l1.length c1, .slice A2 l2.length c2] 39 (0, 0))] by rw [hW0]; exact ((St.start w).alloc _ _ rfl).alloc _ _ (by simp))
  have HN := Lib.hid (hv1.on HST0.out.below)
  have HD := Lib.hid (hv2.on HST0.out.below)
  have HR := Lib.hid (show rchB F x y p q = _ from rchB.eq_1 F x y p q)
  have HOF := Lib.hid (fun W => rnatOf_any (2 * F) W (by omega))
  have HOX := Lib.hid (fun W => rnatOf_any x W (by omega))
  have HOP := Lib.hid (fun W => rnatOf_any p W (by omega))
  have HOM := Lib.hid (fun W => rnatOf_any (max (y - x) (x - y)) W (by omega))
  have HKS := Lib.hid (show ∀ X, Below W0.heap.size W0 X → Below W0.heap.size W0 X ∧ X.cell? ⟨w.heap.size, 0, none⟩ = some (.int .i64 F) ∧ X.cell? ⟨w.heap.size, 1, none⟩ = some (.int .i64 x) ∧ X.cell? ⟨w.heap.size, 2, none⟩ = some (.int .i64 y) ∧ X.cell? ⟨w.heap.size + 1, 1, none⟩ = some (.slice A1 l1.length c1) ∧ X.cell? ⟨w.heap.size + 1, 2, none⟩ = some (.slice A2 l2.length c2) from fun X hX => ⟨hX, (HST0.out.call hX).cell 0 0 rfl rfl, (HST0.out.call hX).cell 0 1 rfl rfl, (HST0.out.call hX).cell 0 2 rfl rfl, (HST0.out.call hX).cell 1 1 rfl rfl, (HST0.out.call hX).cell 1 2 rfl rfl⟩)
  have hw2 : IntKind.i64.wrap (2 * F) = 2 * F := IntWalk.i64_in _ (by omega)
  have HW2 := Lib.hid hw2
  clear hv1 hv2 hq hw2
  go_enter Tryz.func130, Tryz.ntmps130
  go_wp2_with fail
  rw [← hW0]
  clear hW0
  go_region_held3 (fun X => Below W0.heap.size W0 X ∧ X.cell? ⟨w.heap.size, 0, none⟩ = some (.int .i64 F) ∧ X.cell? ⟨w.heap.size, 1, none⟩ = some (.int .i64 x) ∧ X.cell? ⟨w.heap.size, 2, none⟩ = some (.int .i64 y) ∧ X.cell? ⟨w.heap.size + 1, 1, none⟩ = some (.slice A1 l1.length c1) ∧ X.cell? ⟨w.heap.size + 1, 2, none⟩ = some (.slice A2 l2.length c2))
    (first
      | exact HKS.out _ (Below.refl _ W0).drew
      | (go_split_ands; refine HKS.out _ (below_next ?_ hb3); assumption)
      | (go_split_ands; refine HKS.out _ (below_next ?_ hb4); assumption)
      | (go_split_ands; refine HKS.out _ (below_next ?_ hb5); assumption)
      | (go_split_ands; refine HKS.out _ (below_next ?_ hb6); assumption)
      | (go_split_ands; refine HKS.out _ (below_next ?_ hb7); assumption))
    (first
      | (go_at_call 91; (try rw [HW2.out]); (with_reducible refine (HOF.out _).mono ?_); rintro e w3 ⟨A3, c3, l3, rfl, hn3, hb3⟩)
      | (go_at_call 91; (with_reducible refine (HOX.out _).mono ?_); rintro e w4 ⟨A4, c4, l4, rfl, hn4, hb4⟩)
      | (go_at_call 53; (with_reducible refine (rnatMul_any A3 A4 c3 c4 l3 l4 _ _ _ (hn3.on hb4) hn4 (by have := of_len hn3 (by omega); omega) (by have := of_len hn4 (by omega); omega)).mono ?_); rintro e w5 ⟨A5, c5, l5, rfl, hn5, hb5⟩)
      | (go_at_call 91; (with_reducible refine (HOP.out _).mono ?_); rintro e w6 ⟨A6, c6, l6, rfl, hn6, hb6⟩)
      | (go_at_call 53; (with_reducible refine (rnatMul_any A5 A6 c5 c6 l5 l6 _ _ _ (hn5.on hb6) hn6 (by have := mul_len hn3 hn4 hn5; have := of_len hn3 (by omega); have := of_len hn4 (by omega); omega) (by have := of_len hn6 (by omega); omega)).mono ?_); rintro e w7 ⟨A7, c7, l7, rfl, hn7, hb7⟩))
  have HB7 := Lib.hid (show Below W0.heap.size W0 w7 by go_split_ands; assumption)
  have s7 : l7.length ≤ 15 := by have := mul_len hn3 hn4 hn5; have := mul_len hn5 hn6 hn7; have := of_len hn3 (by omega); have := of_len hn4 (by omega); have := of_len hn6 (by omega); omega
  have HL7 := Lib.hid (show RNatR w7 A7 c7 l7 (lftN F x p) from hn7)
  clear hn3 hn4 hn5 hn6 hn7 hb3 hb4 hb5 hb6 hb7
  obtain ⟨_, f0, f1, f2, f3, f4⟩ := HKS.out w7 HB7.out
  go_wp2_with fail
  refine (HOM.out _).mono ?_
  rintro e w8 ⟨A8, c8, l8, rfl, hn8, hb8⟩
  go_wp2_with fail
  refine (HOP.out _).mono ?_
  rintro e w9 ⟨A9, c9, l9, rfl, hn9, hb9⟩
  go_wp2_with fail
  refine (HOP.out _).mono ?_
  rintro e w10 ⟨A10, c10, l10, rfl, hn10, hb10⟩
  have s8 : l8.length ≤ 5 := of_len hn8 (by omega)
  have s9 : l9.length ≤ 5 := of_len hn9 (by omega)
  have s10 : l10.length ≤ 5 := of_len hn10 (by omega)
  have HM11 := Lib.hid (rnatMul_any A9 A10 c9 c10 l9 l10 _ _ w10 (hn9.on hb10) hn10 (by omega) (by omega))
  go_wp2_with fail
  refine HM11.out.mono ?_
  rintro e w11 ⟨A11, c11, l11, rfl, hn11, hb11⟩
  have s11 : l11.length ≤ 10 := by have := mul_len hn9 hn10 hn11; omega
  have HM12 := Lib.hid (rnatMul_any A8 A11 c8 c11 l8 l11 _ _ w11 (((hn8.on hb9).on hb10).on hb11) hn11 (by omega) (by omega))
  go_wp2_with fail
  refine HM12.out.mono ?_
  rintro e w12 ⟨A12, c12, l12, rfl, hn12, hb12⟩
  have s12 : l12.length ≤ 15 := by have := mul_len hn8 hn11 hn12; omega
  have HL12 := Lib.hid (show RNatR w12 A12 c12 l12 (sqrN x y p) from hn12)
  have hB12 : Below w7.heap.size w7 w12 := below_next (below_next (below_next (below_next hb8 hb9) hb10) hb11) hb12
  have HB12 := Lib.hid (below_next HB7.out hB12)
  have HL7' := Lib.hid (HL7.out.on hB12)
  clear hn8 hn9 hn10 hn11 hn12 hb8 hb9 hb10 hb11 hb12 hB12 HM11 HM12 f0 f1 f2 f3 f4
  obtain ⟨_, f0, f1, f2, f3, f4⟩ := HKS.out w12 HB12.out
  have HD13 := Lib.hid (show Below W0.heap.size W0 w12.drew from HB12.out.drew)
  have HN12 := Lib.hid (HN.out.on HB12.out)
  have HD12 := Lib.hid (HD.out.on HB12.out)
  have HEND := Lib.hid (fun W (hb : Below W0.heap.size W0 W) => below_next HST0.out.below hb)
  by_cases hxy : x ≤ y
  · have t1 : decide (x ≤ y) = true := by simpa using hxy
    rw [if_pos hxy] at HR
    have HAD := Lib.hid (fun W (hb : Below w12.heap.size w12 W) => rnatAdd_any A7 A12 c7 c12 l7 l12 _ _ W (HL7'.out.on hb) (HL12.out.on hb) (by omega) (by omega))
    clear hxy
    go_wp2_with fail
    go_region_held3 (fun X => Below W0.heap.size W0 X ∧ X.cell? ⟨w.heap.size, 0, none⟩ = some (.int .i64 F) ∧ X.cell? ⟨w.heap.size, 1, none⟩ = some (.int .i64 x) ∧ X.cell? ⟨w.heap.size, 2, none⟩ = some (.int .i64 y) ∧ X.cell? ⟨w.heap.size + 1, 1, none⟩ = some (.slice A1 l1.length c1) ∧ X.cell? ⟨w.heap.size + 1, 2, none⟩ = some (.slice A2 l2.length c2))
      (first
        | exact HKS.out _ HD13.out
        | (go_split_ands; refine HKS.out _ (below_next ?_ hb13); assumption)
        | (go_split_ands; refine HKS.out _ (below_next ?_ hb14); assumption)
        | (go_split_ands; refine HKS.out _ (below_next ?_ hb15); assumption))
      (first
        | (go_at_call 55; refine (HAD.out w12.drew (Below.refl _ w12).drew).mono ?_; rintro e w13 ⟨A13, c13, l13, rfl, hn13, hb13⟩)
        | (go_at_call 53; refine (rnatMul_any A13 A2 c13 c2 l13 l2 _ _ _ hn13 (HD12.out.on (below_next (Below.refl _ w12).drew hb13)) (by have := add_len HL7'.out HL12.out hn13; omega) (by omega)).mono ?_; rintro e w14 ⟨A14, c14, l14, rfl, hn14, hb14⟩)
        | (go_at_call 56; refine (rnatCmpB_any A14 A1 c14 c1 l14 l1 _ _ _ hn14 (HN12.out.on (below_next (below_next (Below.refl _ w12).drew hb13) hb14)) (by have := mul_len hn13 HD12.out hn14; have := add_len HL7'.out HL12.out hn13; omega) (by omega)).mono ?_; rintro e w15 ⟨rfl, hb15⟩))
    have HB15 := Lib.hid (show Below W0.heap.size W0 w15 by go_split_ands; assumption)
    clear hb13 hb14 hb15 hn13 hn14
    go_wp2
    go_ret
    refine ⟨?_, HEND.out _ HB15.out⟩
    rw [HR.out, ← cmp_ge]; rfl
  · have t1 : decide (x ≤ y) = false := by simpa using hxy
    rw [if_neg hxy] at HR
    clear hxy
    go_wp2_with fail
    go_region_held3 (fun X => Below W0.heap.size W0 X ∧ X.cell? ⟨w.heap.size, 0, none⟩ = some (.int .i64 F) ∧ X.cell? ⟨w.heap.size, 1, none⟩ = some (.int .i64 x) ∧ X.cell? ⟨w.heap.size, 2, none⟩ = some (.int .i64 y) ∧ X.cell? ⟨w.heap.size + 1, 1, none⟩ = some (.slice A1 l1.length c1) ∧ X.cell? ⟨w.heap.size + 1, 2, none⟩ = some (.slice A2 l2.length c2))
      (first
        | exact HKS.out _ HD13.out
        | (go_split_ands; refine HKS.out _ (below_next ?_ hb13); assumption)
        | (go_split_ands; refine HKS.out _ (below_next ?_ hb14); assumption)
        | (go_split_ands; refine HKS.out _ (below_next ?_ hb15); assumption)
        | (go_split_ands; refine HKS.out _ (below_next ?_ hb16); assumption))
      (first
        | (go_at_call 53; (with_reducible refine (rnatMul_any A7 A2 c7 c2 l7 l2 _ _ _ (HL7'.out.on (Below.refl _ w12).drew) (HD12.out.on (Below.refl _ w12).drew) (by omega) (by omega)).mono ?_); rintro e w13 ⟨A13, c13, l13, rfl, hn13, hb13⟩)
        | (go_at_call 53; (with_reducible refine (rnatMul_any A12 A2 c12 c2 l12 l2 _ _ _ (HL12.out.on (below_next (Below.refl _ w12).drew hb13)) (HD12.out.on (below_next (Below.refl _ w12).drew hb13)) (by omega) (by omega)).mono ?_); rintro e w14 ⟨A14, c14, l14, rfl, hn14, hb14⟩)
        | (go_at_call 55; refine (rnatAdd_any A1 A14 c1 c14 l1 l14 _ _ _ (HN12.out.on (below_next (below_next (Below.refl _ w12).drew hb13) hb14)) hn14 (by omega) (by have := mul_len HL12.out HD12.out hn14; omega)).mono ?_; rintro e w15 ⟨A15, c15, l15, rfl, hn15, hb15⟩)
        | (go_at_call 56; refine (rnatCmpB_any A13 A15 c13 c15 l13 l15 _ _ _ ((hn13.on hb14).on hb15) hn15 (by have := mul_len HL7'.out HD12.out hn13; omega) (by have := add_len HN12.out hn14 hn15; have := mul_len HL12.out HD12.out hn14; omega)).mono ?_; rintro e w16 ⟨rfl, hb16⟩))
    have HB16 := Lib.hid (show Below W0.heap.size W0 w16 by go_split_ands; assumption)
    clear hb13 hb14 hb15 hb16 hn13 hn14 hn15
    go_wp2
    go_ret
    refine ⟨?_, HEND.out _ HB16.out⟩
    rw [HR.out, ← cmp_ge]; rfl
end Go.Proofs.YtkoodmoilfgafaaGreatDoor
