/- Package dynamometerref0: fractions: Minus, Plus, Less, Sign, Order, Floor. Printed by gen_frac.py. -/
import Derived.Test.YtnpfdelklolchaaGreatDoorG14
namespace Go.Proofs.YtnpfdelklolchaaGreatDoor
open Go Go.RowKit Go.Proofs

theorem two_on {w : World} (X Y : Obj) : Below w.heap.size w ((w.alloc X).alloc Y) := ((Below.refl _ w).alloc (Nat.le_refl _) X).alloc (by simp) Y
set_option maxHeartbeats 2000000 in
set_option maxRecDepth 100000 in
theorem rMinus_any (u : Value) (a : Rat) (w : World) (ha : FracR w u a) : Calls Tryz.prog 86 #[u] w (FracPost (-a) w) := by
  obtain ⟨A1, c1, l1, A2, c2, l2, rfl, ha1, ha2⟩ := ha
  obtain ⟨m1, m2, m3⟩ := minus_parts a
  have HF := Lib.hid (fun X Y => show FracR ((w.alloc X).alloc Y) (.agg #[.bool (frS (-a)), .slice A1 l1.length c1, .slice A2 l2.length c2]) (-a) from ⟨A1, c1, l1, A2, c2, l2, rfl, by rw [m2]; exact ha1.on (two_on X Y), by rw [m3]; exact ha2.on (two_on X Y)⟩)
  by_cases hl : l1.length = 0
  · have hz : frN a = 0 := by
      have : l1 = [] := List.eq_nil_of_length_eq_zero hl
      subst this
      have := ha1.val; simpa [val] using this.symm
    have hS : frS (-a) = frS a := by rw [m1, if_neg (by omega)]
    have t1 : decide (0 < (l1.length : Int)) = false := decide_eq_false (by omega)
    have t1' : decide (0 < l1.length) = false := decide_eq_false (by omega)
    rw [hS] at HF
    obtain ⟨sa, hsa⟩ : ∃ s, s = frS a := ⟨_, rfl⟩
    rw [← hsa] at HF ⊢
    clear m1 m2 m3 ha1 ha2 hz hsa hS hl
    go_enter Tryz.func86, Tryz.ntmps86
    go_wp2
    refine bodyPost_ret (v := .agg #[.bool sa, .slice A1 l1.length c1, .slice A2 l2.length c2]) (by simp [results, Tryz.results86, go_sem]) rfl ⟨_, rfl, HF.out _ _, two_on _ _⟩
  · have hz : 0 < frN a := by
      refine Nat.pos_of_ne_zero fun h => hl ?_
      rw [(val_zero T4_pos ha1.norm).1 (by rw [ha1.val, h])]; rfl
    have hS : frS (-a) = !frS a := by rw [m1, if_pos hz]
    have t1 : decide (0 < (l1.length : Int)) = true := decide_eq_true (by omega)
    have t1' : decide (0 < l1.length) = true := decide_eq_true (by omega)
    rw [hS] at HF
    obtain ⟨sa, hsa⟩ : ∃ s, s = frS a := ⟨_, rfl⟩
    rw [← hsa] at HF ⊢
    clear m1 m2 m3 ha1 ha2 hz hsa hS hl
    go_enter Tryz.func86, Tryz.ntmps86
    go_wp2
    refine bodyPost_ret (v := .agg #[.bool (!sa), .slice A1 l1.length c1, .slice A2 l2.length c2]) (by simp [results, Tryz.results86, go_sem]) rfl ⟨_, rfl, HF.out _ _, two_on _ _⟩

/-- the sign -/
def sgnQ (q : Rat) : Int := if q < 0 then -1 else if q = 0 then 0 else 1
set_option maxHeartbeats 1000000 in
set_option maxRecDepth 100000 in
theorem rSign_any (u : Value) (a : Rat) (w : World) (ha : FracR w u a) : Calls Tryz.prog 43 #[u] w fun e w' => e = .returned (.int .i64 (sgnQ a)) ∧ Below w.heap.size w w' := by
  obtain ⟨A1, c1, l1, A2, c2, l2, rfl, ha1, ha2⟩ := ha
  have hs := sign_eq a
  have hb := (Below.refl w.heap.size w).alloc (Nat.le_refl _) (.cells #[.bool (frS a), .slice A1 l1.length c1, .slice A2 l2.length c2] 31)
  by_cases hl : l1.length = 0
  · have hz : frN a = 0 := by
      have : l1 = [] := List.eq_nil_of_length_eq_zero hl
      subst this
      have := ha1.val; simpa [val] using this.symm
    have HE := Lib.hid (show sgnQ a = 0 by unfold sgnQ; rw [← hs, if_pos hz])
    have t1 : ((l1.length : Int) == 0) = true := by simp; exact List.eq_nil_of_length_eq_zero hl
    have t1' : (l1.length == 0) = true := by simpa using hl
    clear ha1 ha2 hs hz hl
    go_enter Tryz.func43, Tryz.ntmps43
    go_wp2
    go_ret
    exact ⟨by rw [HE.out]; rfl, hb⟩
  · have hz : frN a ≠ 0 := fun h => hl (by rw [(val_zero T4_pos ha1.norm).1 (by rw [ha1.val, h])]; rfl)
    rw [if_neg hz] at hs
    have t1 : ((l1.length : Int) == 0) = false := by simpa using hl
    have t1' : (l1.length == 0) = false := by simpa using hl
    have HE := Lib.hid (show sgnQ a = if frS a = true then -1 else 1 from hs.symm)
    obtain ⟨sa, hsa⟩ : ∃ s, s = frS a := ⟨_, rfl⟩
    rw [← hsa] at HE hb ⊢
    clear ha1 ha2 hs hz hl hsa
    cases sa with
    | true =>
      go_enter Tryz.func43, Tryz.ntmps43
      go_wp2
      go_ret
      exact ⟨by rw [HE.out]; rfl, hb⟩
    | false =>
      go_enter Tryz.func43, Tryz.ntmps43
      go_wp2
      go_ret
      exact ⟨by rw [HE.out]; rfl, hb⟩

theorem add_small {n x y : Nat} (hx : x < T4 ^ (n + n)) (hy : y < T4 ^ (n + n)) : x + y < T4 ^ (n + n + 1) := by
  rw [Nat.pow_succ]; unfold T4 at *; omega
set_option maxHeartbeats 8000000 in
set_option maxRecDepth 100000 in
theorem rPlus_any (n : Nat) (u v : Value) (a b : Rat) (w : World) (hn : n ≤ 400000) (ha : FracR w u a) (hb : FracR w v b) (hsa : Sz n a) (hsb : Sz n b) :
    Calls Tryz.prog 40 #[u, v] w (FracPost (a + b) w) := by
  obtain ⟨A1, c1, l1, A2, c2, l2, rfl, ha1, ha2⟩ := ha
  obtain ⟨A3, c3, l3, A4, c4, l4, rfl, hb1, hb2⟩ := hb
  have la1 := ha1.len hsa.1
  have la2 := ha2.len hsa.2
  have lb1 := hb1.len hsb.1
  have lb2 := hb2.len hsb.2
  obtain ⟨W0, hW0⟩ : ∃ W0, W0 = ((w.alloc (.cells #[.bool (frS a), .slice A1 l1.length c1, .slice A2 l2.length c2] 31)).alloc (.cells #[.bool (frS b), .slice A3 l3.length c3, .slice A4 l4.length c4] 31)).alloc (.cells #[.bool false, .slice none 0 0, .slice none 0 0] 31) := ⟨_, rfl⟩
  have HST0 := Lib.hid (show St w W0 [(w.heap.size, .cells #[.bool (frS a), .slice A1 l1.length c1, .slice A2 l2.length c2] 31 (0, 0)), (w.heap.size + 1, .cells #[.bool (frS b), .slice A3 l3.length c3, .slice A4 l4.length c4] 31 (0, 0)), (w.heap.size + 1 + 1, .cells #[.bool false, .slice none 0 0, .slice none 0 0] 31 (0, 0))] by rw [hW0]; exact (((St.start w).alloc _ _ rfl).alloc _ _ (by simp)).alloc _ _ (by simp))
  have hs0 : W0.heap.size = w.heap.size + 3 := by rw [hW0]; simp
  have HX0 := Lib.hid (show FBox W0 (w.heap.size + 1 + 1) from HST0.out.at 2 rfl)
  have HA1 := Lib.hid (ha1.on HST0.out.below)
  have HA2 := Lib.hid (ha2.on HST0.out.below)
  have HA3 := Lib.hid (hb1.on HST0.out.below)
  have HA4 := Lib.hid (hb2.on HST0.out.below)
  have HM1 := Lib.hid (fun W (hb : Below W0.heap.size W0 W) => rnatMul_any A1 A4 c1 c4 l1 l4 _ _ W (HA1.out.on hb) (HA4.out.on hb) (by omega) (by omega))
  have HM2 := Lib.hid (fun W (hb : Below W0.heap.size W0 W) => rnatMul_any A3 A2 c3 c2 l3 l2 _ _ W (HA3.out.on hb) (HA2.out.on hb) (by omega) (by omega))
  have HM3 := Lib.hid (fun W (hb : Below W0.heap.size W0 W) => rnatMul_any A2 A4 c2 c4 l2 l4 _ _ W (HA2.out.on hb) (HA4.out.on hb) (by omega) (by omega))
  have hd : 0 < a.den * b.den := Nat.mul_pos a.den_pos b.den_pos
  have hx1 : frN a * b.den < T4 ^ (n + n) := by rw [Nat.pow_add]; exact Nat.mul_lt_mul'' hsa.1 hsb.2
  have hx2 : frN b * a.den < T4 ^ (n + n) := by rw [Nat.pow_add]; exact Nat.mul_lt_mul'' hsb.1 hsa.2
  have hx3 : a.den * b.den < T4 ^ (n + n) := by rw [Nat.pow_add]; exact Nat.mul_lt_mul'' hsa.2 hsb.2
  have hx4 := add_small hx1 hx2
  have HPS := Lib.hid (fun h => plus_same (a := a) (b := b) h)
  have HPG := Lib.hid (fun h => plus_ge (a := a) (b := b) h)
  have HPL := Lib.hid (fun h => plus_lt (a := a) (b := b) h)
  obtain ⟨X, hX⟩ : ∃ X, X = frN a * b.den := ⟨_, rfl⟩
  obtain ⟨Y, hY⟩ : ∃ Y, Y = frN b * a.den := ⟨_, rfl⟩
  obtain ⟨D, hD⟩ : ∃ D, D = a.den * b.den := ⟨_, rfl⟩
  rw [← hX] at HM1 hx1 hx4
  rw [← hY] at HM2 hx2 hx4
  rw [← hD] at HM3 hd hx3
  simp only [← hX, ← hY, ← hD] at HPS HPG HPL
  clear ha1 ha2 hb1 hb2 hsa hsb hX hY hD
  go_enter Tryz.func40, Tryz.ntmps40
  go_wp2_with fail
  rw [← hW0]
  clear hW0
  have HB := Lib.hid (Below.refl W0.heap.size W0)
  have HKS := Lib.hid (show ∀ X, Below W0.heap.size W0 X → (fun X => Below W0.heap.size W0 X ∧ X.cell? ⟨w.heap.size, 0, none⟩ = some (.bool (frS a)) ∧ X.cell? ⟨w.heap.size, 1, none⟩ = some (.slice A1 l1.length c1) ∧ X.cell? ⟨w.heap.size, 2, none⟩ = some (.slice A2 l2.length c2) ∧ X.cell? ⟨w.heap.size + 1, 0, none⟩ = some (.bool (frS b)) ∧ X.cell? ⟨w.heap.size + 1, 1, none⟩ = some (.slice A3 l3.length c3) ∧ X.cell? ⟨w.heap.size + 1, 2, none⟩ = some (.slice A4 l4.length c4)) X from fun X hX => ⟨hX, (HST0.out.call (below_next HB.out hX)).cell 0 0 rfl rfl, (HST0.out.call (below_next HB.out hX)).cell 0 1 rfl rfl, (HST0.out.call (below_next HB.out hX)).cell 0 2 rfl rfl, (HST0.out.call (below_next HB.out hX)).cell 1 0 rfl rfl, (HST0.out.call (below_next HB.out hX)).cell 1 1 rfl rfl, (HST0.out.call (below_next HB.out hX)).cell 1 2 rfl rfl⟩)
  go_region_held3 (fun X => Below W0.heap.size W0 X ∧ X.cell? ⟨w.heap.size, 0, none⟩ = some (.bool (frS a)) ∧ X.cell? ⟨w.heap.size, 1, none⟩ = some (.slice A1 l1.length c1) ∧ X.cell? ⟨w.heap.size, 2, none⟩ = some (.slice A2 l2.length c2) ∧ X.cell? ⟨w.heap.size + 1, 0, none⟩ = some (.bool (frS b)) ∧ X.cell? ⟨w.heap.size + 1, 1, none⟩ = some (.slice A3 l3.length c3) ∧ X.cell? ⟨w.heap.size + 1, 2, none⟩ = some (.slice A4 l4.length c4))
    (first
      | exact HKS.out _ (Below.refl _ W0).drew
      | (go_split_ands; refine HKS.out _ (below_next ?_ hb5); assumption)
      | (go_split_ands; refine HKS.out _ (below_next ?_ hb6); assumption)
      | (go_split_ands; refine HKS.out _ (below_next ?_ hb7); assumption))
    (first
      | (go_at_call 46; (with_reducible refine (HM1.out _ (by go_split_ands; assumption)).mono ?_); rintro e w5 ⟨A5, c5, l5, rfl, hn5, hb5⟩)
      | (go_at_call 46; (with_reducible refine (HM2.out _ (by go_split_ands; assumption)).mono ?_); rintro e w6 ⟨A6, c6, l6, rfl, hn6, hb6⟩)
      | (go_at_call 46; (with_reducible refine (HM3.out _ (by go_split_ands; assumption)).mono ?_); rintro e w7 ⟨A7, c7, l7, rfl, hn7, hb7⟩))
  have HB7 := Lib.hid (show Below W0.heap.size W0 w7 by go_split_ands; assumption)
  have HX5 := Lib.hid ((hn5.on hb6).on hb7)
  have HX6 := Lib.hid (hn6.on hb7)
  have HX7n := Lib.hid hn7
  have HX7 := Lib.hid (HX0.out.on HB7.out)
  clear hn5 hn6 hn7 hb5 hb6 hb7
  have HB := HB7
  have HKS := Lib.hid (show ∀ X, Below w7.heap.size w7 X → (fun X => Below w7.heap.size w7 X ∧ X.cell? ⟨w.heap.size, 0, none⟩ = some (.bool (frS a)) ∧ X.cell? ⟨w.heap.size, 1, none⟩ = some (.slice A1 l1.length c1) ∧ X.cell? ⟨w.heap.size, 2, none⟩ = some (.slice A2 l2.length c2) ∧ X.cell? ⟨w.heap.size + 1, 0, none⟩ = some (.bool (frS b)) ∧ X.cell? ⟨w.heap.size + 1, 1, none⟩ = some (.slice A3 l3.length c3) ∧ X.cell? ⟨w.heap.size + 1, 2, none⟩ = some (.slice A4 l4.length c4)) X from fun X hX => ⟨hX, (HST0.out.call (below_next HB.out hX)).cell 0 0 rfl rfl, (HST0.out.call (below_next HB.out hX)).cell 0 1 rfl rfl, (HST0.out.call (below_next HB.out hX)).cell 0 2 rfl rfl, (HST0.out.call (below_next HB.out hX)).cell 1 0 rfl rfl, (HST0.out.call (below_next HB.out hX)).cell 1 1 rfl rfl, (HST0.out.call (below_next HB.out hX)).cell 1 2 rfl rfl⟩)
  have e5 := HX5.out.len hx1
  have e6 := HX6.out.len hx2
  have e7 := HX7n.out.len hx3
  obtain ⟨_, f0, f1, f2, f3, f4, f5⟩ := HKS.out w7 (Below.refl _ w7)
  by_cases hs : frS a = frS b
  · have t1 : (frS a == frS b) = true := by simpa using hs
    have HL := Lib.hid (fun W A8 c8 l8 (hb : Below w7.heap.size w7 W) (h8 : RNatR W A8 c8 l8 (X + Y)) => rLowest_any (frS a) A8 A7 c8 c7 l8 l7 _ _ W h8 (HX7n.out.on hb) (by have := h8.len hx4; omega) (by omega) hd)
    rw [HPS.out hs] at HL
    have HOP := Lib.hid (fun W (hb : Below w7.heap.size w7 W) => rnatAdd_any A5 A6 c5 c6 l5 l6 X Y W (HX5.out.on hb) (HX6.out.on hb) (by omega) (by omega))
    clear hs
    go_wp2_with fail
    refine wp_region_last (init := #[_, _, _, _, _, _, _]) (last := _) rfl (by kernel_rfl) (by kernel_rfl) (by kernel_rfl) ?_
    show wpAny _ _ _ _ 7 (Array.replicate 7 false) _ _
    refine wpAny_of_held (S := (fun X => Below w7.heap.size w7 X ∧ X.cell? ⟨w.heap.size, 0, none⟩ = some (.bool (frS a)) ∧ X.cell? ⟨w.heap.size, 1, none⟩ = some (.slice A1 l1.length c1) ∧ X.cell? ⟨w.heap.size, 2, none⟩ = some (.slice A2 l2.length c2) ∧ X.cell? ⟨w.heap.size + 1, 0, none⟩ = some (.bool (frS b)) ∧ X.cell? ⟨w.heap.size + 1, 1, none⟩ = some (.slice A3 l3.length c3) ∧ X.cell? ⟨w.heap.size + 1, 2, none⟩ = some (.slice A4 l4.length c4))) _ _ _ _ ?_
    have HS0 := HKS.out _ (Below.refl _ w7).drew
    refine wpAnyH_take (i := 0) (v := ?_) rfl (by kernel_rfl) (by kernel_rfl) (by kernel_rfl) (fun _ _ _ h => h) (Or.inl ⟨by rfl, ?_⟩) HS0 ?_
    rotate_left
    · intro W hW; (try dsimp only at hW); go_simp; try (with_reducible rfl)
    (try simp only [List.getElem_toArray, List.getElem_cons_zero, Act.put, List.setIfInBounds_toArray, List.set_cons_zero, List.set_cons_succ])
    refine wpAnyH_take (i := 1) (v := ?_) rfl (by kernel_rfl) (by kernel_rfl) (by kernel_rfl) (fun _ _ _ h => h) (Or.inl ⟨by rfl, ?_⟩) HS0 ?_
    rotate_left
    · intro W hW; (try dsimp only at hW); go_simp; try (with_reducible rfl)
    (try simp only [List.getElem_toArray, List.getElem_cons_succ, List.getElem_cons_zero, Act.put, List.setIfInBounds_toArray, List.set_cons_zero, List.set_cons_succ])
    refine wpAnyH_take (i := 2) (v := ?_) rfl (by kernel_rfl) (by kernel_rfl) (by kernel_rfl) (fun _ _ _ h => h) (Or.inl ⟨by rfl, ?_⟩) HS0 ?_
    rotate_left
    · intro W hW; (try dsimp only at hW); go_simp; try (with_reducible rfl)
    (try simp only [List.getElem_toArray, List.getElem_cons_succ, List.getElem_cons_zero, Act.put, List.setIfInBounds_toArray, List.set_cons_zero, List.set_cons_succ])
    refine wpAnyH_take (i := 3) (v := ?_) rfl (by kernel_rfl) (by kernel_rfl) (by kernel_rfl) (fun _ _ _ h => h) (Or.inl ⟨by rfl, ?_⟩) HS0 ?_
    rotate_left
    · intro W hW; (try dsimp only at hW); go_simp; try (with_reducible rfl)
    (try simp only [List.getElem_toArray, List.getElem_cons_succ, List.getElem_cons_zero, Act.put, List.setIfInBounds_toArray, List.set_cons_zero, List.set_cons_succ])
    refine wpAnyH_take (i := 5) (v := ?_) rfl (by kernel_rfl) (by kernel_rfl) (by kernel_rfl) (fun _ _ _ h => h) (Or.inl ⟨by rfl, ?_⟩) HS0 ?_
    rotate_left
    · intro W hW; (try dsimp only at hW); go_simp; try (with_reducible rfl)
    (try simp only [List.getElem_toArray, List.getElem_cons_succ, List.getElem_cons_zero, Act.put, List.setIfInBounds_toArray, List.set_cons_zero, List.set_cons_succ])
    refine run_one (i := 4) (by kernel_rfl) rfl rfl ?_
    intro K hK
    go_simp
    refine (HOP.out _ HS0.1).mono ?_
    rintro e w8 ⟨A8, c8, l8, rfl, hn8, hb8⟩
    refine hK.out _ _ (HKS.out _ (below_next HS0.1 hb8)) ?_
    clear hK K
    have HSP := HS0
    clear HS0
    intro HS0
    refine run_one (i := 6) (by kernel_rfl) rfl rfl ?_
    intro K hK
    go_simp
    refine (HL.out _ A8 c8 l8 HS0.1 hn8).mono ?_
    rintro e w9 ⟨v9, rfl, hv9, hb9⟩
    refine hK.out _ _ (HKS.out _ (below_next HS0.1 hb9)) ?_
    clear hK K
    have HSP := HS0
    clear HS0
    intro HS0
    refine wpAnyH_done (by kernel_rfl) ?_ _
    simp only [LastQ]
    have HF := Lib.hid (fun W (hf : Fr (fun i => i = w.heap.size + 1 + 1) w9 W) => frac_ret2 (HX7.out.on HS0.1) hv9 (below_next HST0.out.below (below_next HB.out HS0.1)) (by omega) hf)
    obtain ⟨k0, k1, k2, z0, z1, z2, hlt⟩ := (HX7.out.on HS0.1).facts
    obtain ⟨A10, c10, l10, A11, c11, l11, rfl, _, _⟩ := hv9
    clear HS0 hb8 hb9 hn8
    go_simp
    go_wp2
    refine bodyPost_ret (v := .agg #[.bool (frS (a + b)), .slice A10 l10.length c10, .slice A11 l11.length c11]) (by simp [results, Tryz.results40, go_sem, k0, k1, k2]) rfl ⟨_, rfl, HF.out _ (fr3 _ _ _)⟩
  · have t1 : (frS a == frS b) = false := by simpa using hs
    have HC := Lib.hid (rnatCmp_any A5 A6 c5 c6 l5 l6 X Y w7 HX5.out HX6.out (by omega) (by omega))
    obtain ⟨cv, hcv⟩ : ∃ cv, cv = cmpN X Y := ⟨_, rfl⟩
    rw [← hcv] at HC
    by_cases hxy : Y ≤ X
    · skip
      have tc : decide (0 ≤ cv) = true := by rw [hcv]; unfold cmpN; split <;> (try split) <;> simp <;> omega
      have HL := Lib.hid (fun W A8 c8 l8 (hb : Below w7.heap.size w7 W) (h8 : RNatR W A8 c8 l8 (X - Y)) => rLowest_any (frS a) A8 A7 c8 c7 l8 l7 _ _ W h8 (HX7n.out.on hb) (by have := h8.len (n := n + n) (by omega); omega) (by omega) hd)
      rw [HPG.out hs (by omega)] at HL
      have HOP := Lib.hid (fun W (hb : Below w7.heap.size w7 W) => rnatSub_any A5 A6 c5 c6 l5 l6 X Y W (HX5.out.on hb) (HX6.out.on hb) (by omega) (by omega))
      clear hs hcv
      go_wp2_with fail
      refine HC.out.mono ?_
      rintro e wC ⟨rfl, qq, hqq⟩
      have hbC : Below w7.heap.size w7 wC := by rw [hqq]; exact below_drewN (Below.refl _ w7) qq
      clear hqq
      have HL2 := Lib.hid (fun W A8 c8 l8 (hb : Below wC.heap.size wC W) h8 => HL.out W A8 c8 l8 (below_next hbC hb) h8)
      have HOP2 := Lib.hid (fun W (hb : Below wC.heap.size wC W) => HOP.out W (below_next hbC hb))
      have HX7' := Lib.hid (HX7.out.on hbC)
      have HB' := Lib.hid (below_next HB.out hbC)
      clear HX7 HB HKS f0 f1 f2 f3 f4 f5 HB7 HOP HL hbC
      have HX7 := HX7'
      have HB := HB'
      have HKS := Lib.hid (show ∀ X, Below wC.heap.size wC X → (fun X => Below wC.heap.size wC X ∧ X.cell? ⟨w.heap.size, 0, none⟩ = some (.bool (frS a)) ∧ X.cell? ⟨w.heap.size, 1, none⟩ = some (.slice A1 l1.length c1) ∧ X.cell? ⟨w.heap.size, 2, none⟩ = some (.slice A2 l2.length c2) ∧ X.cell? ⟨w.heap.size + 1, 0, none⟩ = some (.bool (frS b)) ∧ X.cell? ⟨w.heap.size + 1, 1, none⟩ = some (.slice A3 l3.length c3) ∧ X.cell? ⟨w.heap.size + 1, 2, none⟩ = some (.slice A4 l4.length c4)) X from fun X hX => ⟨hX, (HST0.out.call (below_next HB.out hX)).cell 0 0 rfl rfl, (HST0.out.call (below_next HB.out hX)).cell 0 1 rfl rfl, (HST0.out.call (below_next HB.out hX)).cell 0 2 rfl rfl, (HST0.out.call (below_next HB.out hX)).cell 1 0 rfl rfl, (HST0.out.call (below_next HB.out hX)).cell 1 1 rfl rfl, (HST0.out.call (below_next HB.out hX)).cell 1 2 rfl rfl⟩)
      obtain ⟨_, f0, f1, f2, f3, f4, f5⟩ := HKS.out wC (Below.refl _ wC)
      go_wp2_with fail
      refine wp_region_last (init := #[_, _, _, _, _, _, _]) (last := _) rfl (by kernel_rfl) (by kernel_rfl) (by kernel_rfl) ?_
      show wpAny _ _ _ _ 7 (Array.replicate 7 false) _ _
      refine wpAny_of_held (S := (fun X => Below wC.heap.size wC X ∧ X.cell? ⟨w.heap.size, 0, none⟩ = some (.bool (frS a)) ∧ X.cell? ⟨w.heap.size, 1, none⟩ = some (.slice A1 l1.length c1) ∧ X.cell? ⟨w.heap.size, 2, none⟩ = some (.slice A2 l2.length c2) ∧ X.cell? ⟨w.heap.size + 1, 0, none⟩ = some (.bool (frS b)) ∧ X.cell? ⟨w.heap.size + 1, 1, none⟩ = some (.slice A3 l3.length c3) ∧ X.cell? ⟨w.heap.size + 1, 2, none⟩ = some (.slice A4 l4.length c4))) _ _ _ _ ?_
      have HS0 := HKS.out _ (Below.refl _ wC).drew
      refine wpAnyH_take (i := 0) (v := ?_) rfl (by kernel_rfl) (by kernel_rfl) (by kernel_rfl) (fun _ _ _ h => h) (Or.inl ⟨by rfl, ?_⟩) HS0 ?_
      rotate_left
      · intro W hW; (try dsimp only at hW); go_simp; try (with_reducible rfl)
      (try simp only [List.getElem_toArray, List.getElem_cons_zero, Act.put, List.setIfInBounds_toArray, List.set_cons_zero, List.set_cons_succ])
      refine wpAnyH_take (i := 1) (v := ?_) rfl (by kernel_rfl) (by kernel_rfl) (by kernel_rfl) (fun _ _ _ h => h) (Or.inl ⟨by rfl, ?_⟩) HS0 ?_
      rotate_left
      · intro W hW; (try dsimp only at hW); go_simp; try (with_reducible rfl)
      (try simp only [List.getElem_toArray, List.getElem_cons_succ, List.getElem_cons_zero, Act.put, List.setIfInBounds_toArray, List.set_cons_zero, List.set_cons_succ])
      refine wpAnyH_take (i := 2) (v := ?_) rfl (by kernel_rfl) (by kernel_rfl) (by kernel_rfl) (fun _ _ _ h => h) (Or.inl ⟨by rfl, ?_⟩) HS0 ?_
      rotate_left
      · intro W hW; (try dsimp only at hW); go_simp; try (with_reducible rfl)
      (try simp only [List.getElem_toArray, List.getElem_cons_succ, List.getElem_cons_zero, Act.put, List.setIfInBounds_toArray, List.set_cons_zero, List.set_cons_succ])
      refine wpAnyH_take (i := 3) (v := ?_) rfl (by kernel_rfl) (by kernel_rfl) (by kernel_rfl) (fun _ _ _ h => h) (Or.inl ⟨by rfl, ?_⟩) HS0 ?_
      rotate_left
      · intro W hW; (try dsimp only at hW); go_simp; try (with_reducible rfl)
      (try simp only [List.getElem_toArray, List.getElem_cons_succ, List.getElem_cons_zero, Act.put, List.setIfInBounds_toArray, List.set_cons_zero, List.set_cons_succ])
      refine wpAnyH_take (i := 5) (v := ?_) rfl (by kernel_rfl) (by kernel_rfl) (by kernel_rfl) (fun _ _ _ h => h) (Or.inl ⟨by rfl, ?_⟩) HS0 ?_
      rotate_left
      · intro W hW; (try dsimp only at hW); go_simp; try (with_reducible rfl)
      (try simp only [List.getElem_toArray, List.getElem_cons_succ, List.getElem_cons_zero, Act.put, List.setIfInBounds_toArray, List.set_cons_zero, List.set_cons_succ])
      refine run_one (i := 4) (by kernel_rfl) rfl rfl ?_
      intro K hK
      go_simp
      refine (HOP2.out _ HS0.1).mono ?_
      rintro e w8 ⟨A8, c8, l8, rfl, hn8, hb8⟩
      refine hK.out _ _ (HKS.out _ (below_next HS0.1 hb8)) ?_
      clear hK K
      have HSP := HS0
      clear HS0
      intro HS0
      refine run_one (i := 6) (by kernel_rfl) rfl rfl ?_
      intro K hK
      go_simp
      refine (HL2.out _ A8 c8 l8 HS0.1 hn8).mono ?_
      rintro e w9 ⟨v9, rfl, hv9, hb9⟩
      refine hK.out _ _ (HKS.out _ (below_next HS0.1 hb9)) ?_
      clear hK K
      have HSP := HS0
      clear HS0
      intro HS0
      refine wpAnyH_done (by kernel_rfl) ?_ _
      simp only [LastQ]
      have HF := Lib.hid (fun W (hf : Fr (fun i => i = w.heap.size + 1 + 1) w9 W) => frac_ret2 (HX7.out.on HS0.1) hv9 (below_next HST0.out.below (below_next HB.out HS0.1)) (by omega) hf)
      obtain ⟨k0, k1, k2, z0, z1, z2, hlt⟩ := (HX7.out.on HS0.1).facts
      obtain ⟨A10, c10, l10, A11, c11, l11, rfl, _, _⟩ := hv9
      clear HS0 hb8 hb9 hn8
      go_simp
      go_wp2
      refine bodyPost_ret (v := .agg #[.bool (frS (a + b)), .slice A10 l10.length c10, .slice A11 l11.length c11]) (by simp [results, Tryz.results40, go_sem, k0, k1, k2]) rfl ⟨_, rfl, HF.out _ (fr3 _ _ _)⟩
    · skip
      have tc : decide (0 ≤ cv) = false := by rw [hcv]; unfold cmpN; split <;> (try split) <;> simp <;> omega
      have HL := Lib.hid (fun W A8 c8 l8 (hb : Below w7.heap.size w7 W) (h8 : RNatR W A8 c8 l8 (Y - X)) => rLowest_any (frS b) A8 A7 c8 c7 l8 l7 _ _ W h8 (HX7n.out.on hb) (by have := h8.len (n := n + n) (by omega); omega) (by omega) hd)
      rw [HPL.out hs (by omega)] at HL
      have HOP := Lib.hid (fun W (hb : Below w7.heap.size w7 W) => rnatSub_any A6 A5 c6 c5 l6 l5 Y X W (HX6.out.on hb) (HX5.out.on hb) (by omega) (by omega))
      clear hs hcv
      go_wp2_with fail
      refine HC.out.mono ?_
      rintro e wC ⟨rfl, qq, hqq⟩
      have hbC : Below w7.heap.size w7 wC := by rw [hqq]; exact below_drewN (Below.refl _ w7) qq
      clear hqq
      have HL2 := Lib.hid (fun W A8 c8 l8 (hb : Below wC.heap.size wC W) h8 => HL.out W A8 c8 l8 (below_next hbC hb) h8)
      have HOP2 := Lib.hid (fun W (hb : Below wC.heap.size wC W) => HOP.out W (below_next hbC hb))
      have HX7' := Lib.hid (HX7.out.on hbC)
      have HB' := Lib.hid (below_next HB.out hbC)
      clear HX7 HB HKS f0 f1 f2 f3 f4 f5 HB7 HOP HL hbC
      have HX7 := HX7'
      have HB := HB'
      have HKS := Lib.hid (show ∀ X, Below wC.heap.size wC X → (fun X => Below wC.heap.size wC X ∧ X.cell? ⟨w.heap.size, 0, none⟩ = some (.bool (frS a)) ∧ X.cell? ⟨w.heap.size, 1, none⟩ = some (.slice A1 l1.length c1) ∧ X.cell? ⟨w.heap.size, 2, none⟩ = some (.slice A2 l2.length c2) ∧ X.cell? ⟨w.heap.size + 1, 0, none⟩ = some (.bool (frS b)) ∧ X.cell? ⟨w.heap.size + 1, 1, none⟩ = some (.slice A3 l3.length c3) ∧ X.cell? ⟨w.heap.size + 1, 2, none⟩ = some (.slice A4 l4.length c4)) X from fun X hX => ⟨hX, (HST0.out.call (below_next HB.out hX)).cell 0 0 rfl rfl, (HST0.out.call (below_next HB.out hX)).cell 0 1 rfl rfl, (HST0.out.call (below_next HB.out hX)).cell 0 2 rfl rfl, (HST0.out.call (below_next HB.out hX)).cell 1 0 rfl rfl, (HST0.out.call (below_next HB.out hX)).cell 1 1 rfl rfl, (HST0.out.call (below_next HB.out hX)).cell 1 2 rfl rfl⟩)
      obtain ⟨_, f0, f1, f2, f3, f4, f5⟩ := HKS.out wC (Below.refl _ wC)
      go_wp2_with fail
      refine wp_region_last (init := #[_, _, _, _, _, _, _]) (last := _) rfl (by kernel_rfl) (by kernel_rfl) (by kernel_rfl) ?_
      show wpAny _ _ _ _ 7 (Array.replicate 7 false) _ _
      refine wpAny_of_held (S := (fun X => Below wC.heap.size wC X ∧ X.cell? ⟨w.heap.size, 0, none⟩ = some (.bool (frS a)) ∧ X.cell? ⟨w.heap.size, 1, none⟩ = some (.slice A1 l1.length c1) ∧ X.cell? ⟨w.heap.size, 2, none⟩ = some (.slice A2 l2.length c2) ∧ X.cell? ⟨w.heap.size + 1, 0, none⟩ = some (.bool (frS b)) ∧ X.cell? ⟨w.heap.size + 1, 1, none⟩ = some (.slice A3 l3.length c3) ∧ X.cell? ⟨w.heap.size + 1, 2, none⟩ = some (.slice A4 l4.length c4))) _ _ _ _ ?_
      have HS0 := HKS.out _ (Below.refl _ wC).drew
      refine wpAnyH_take (i := 0) (v := ?_) rfl (by kernel_rfl) (by kernel_rfl) (by kernel_rfl) (fun _ _ _ h => h) (Or.inl ⟨by rfl, ?_⟩) HS0 ?_
      rotate_left
      · intro W hW; (try dsimp only at hW); go_simp; try (with_reducible rfl)
      (try simp only [List.getElem_toArray, List.getElem_cons_zero, Act.put, List.setIfInBounds_toArray, List.set_cons_zero, List.set_cons_succ])
      refine wpAnyH_take (i := 1) (v := ?_) rfl (by kernel_rfl) (by kernel_rfl) (by kernel_rfl) (fun _ _ _ h => h) (Or.inl ⟨by rfl, ?_⟩) HS0 ?_
      rotate_left
      · intro W hW; (try dsimp only at hW); go_simp; try (with_reducible rfl)
      (try simp only [List.getElem_toArray, List.getElem_cons_succ, List.getElem_cons_zero, Act.put, List.setIfInBounds_toArray, List.set_cons_zero, List.set_cons_succ])
      refine wpAnyH_take (i := 2) (v := ?_) rfl (by kernel_rfl) (by kernel_rfl) (by kernel_rfl) (fun _ _ _ h => h) (Or.inl ⟨by rfl, ?_⟩) HS0 ?_
      rotate_left
      · intro W hW; (try dsimp only at hW); go_simp; try (with_reducible rfl)
      (try simp only [List.getElem_toArray, List.getElem_cons_succ, List.getElem_cons_zero, Act.put, List.setIfInBounds_toArray, List.set_cons_zero, List.set_cons_succ])
      refine wpAnyH_take (i := 3) (v := ?_) rfl (by kernel_rfl) (by kernel_rfl) (by kernel_rfl) (fun _ _ _ h => h) (Or.inl ⟨by rfl, ?_⟩) HS0 ?_
      rotate_left
      · intro W hW; (try dsimp only at hW); go_simp; try (with_reducible rfl)
      (try simp only [List.getElem_toArray, List.getElem_cons_succ, List.getElem_cons_zero, Act.put, List.setIfInBounds_toArray, List.set_cons_zero, List.set_cons_succ])
      refine wpAnyH_take (i := 5) (v := ?_) rfl (by kernel_rfl) (by kernel_rfl) (by kernel_rfl) (fun _ _ _ h => h) (Or.inl ⟨by rfl, ?_⟩) HS0 ?_
      rotate_left
      · intro W hW; (try dsimp only at hW); go_simp; try (with_reducible rfl)
      (try simp only [List.getElem_toArray, List.getElem_cons_succ, List.getElem_cons_zero, Act.put, List.setIfInBounds_toArray, List.set_cons_zero, List.set_cons_succ])
      refine run_one (i := 4) (by kernel_rfl) rfl rfl ?_
      intro K hK
      go_simp
      refine (HOP2.out _ HS0.1).mono ?_
      rintro e w8 ⟨A8, c8, l8, rfl, hn8, hb8⟩
      refine hK.out _ _ (HKS.out _ (below_next HS0.1 hb8)) ?_
      clear hK K
      have HSP := HS0
      clear HS0
      intro HS0
      refine run_one (i := 6) (by kernel_rfl) rfl rfl ?_
      intro K hK
      go_simp
      refine (HL2.out _ A8 c8 l8 HS0.1 hn8).mono ?_
      rintro e w9 ⟨v9, rfl, hv9, hb9⟩
      refine hK.out _ _ (HKS.out _ (below_next HS0.1 hb9)) ?_
      clear hK K
      have HSP := HS0
      clear HS0
      intro HS0
      refine wpAnyH_done (by kernel_rfl) ?_ _
      simp only [LastQ]
      have HF := Lib.hid (fun W (hf : Fr (fun i => i = w.heap.size + 1 + 1) w9 W) => frac_ret2 (HX7.out.on HS0.1) hv9 (below_next HST0.out.below (below_next HB.out HS0.1)) (by omega) hf)
      obtain ⟨k0, k1, k2, z0, z1, z2, hlt⟩ := (HX7.out.on HS0.1).facts
      obtain ⟨A10, c10, l10, A11, c11, l11, rfl, _, _⟩ := hv9
      clear HS0 hb8 hb9 hn8
      go_simp
      go_wp2
      refine bodyPost_ret (v := .agg #[.bool (frS (a + b)), .slice A10 l10.length c10, .slice A11 l11.length c11]) (by simp [results, Tryz.results40, go_sem, k0, k1, k2]) rfl ⟨_, rfl, HF.out _ (fr3 _ _ _)⟩

theorem sz_neg {n : Nat} {a : Rat} (h : Sz n a) : Sz n (-a) := by
  obtain ⟨_, m2, m3⟩ := minus_parts a
  exact ⟨by rw [m2]; exact h.1, by rw [m3]; exact h.2⟩
set_option maxHeartbeats 4000000 in
set_option maxRecDepth 100000 in
theorem rLess_any (n : Nat) (u v : Value) (a b : Rat) (w : World) (hn : n ≤ 400000) (ha : FracR w u a) (hb : FracR w v b) (hsa : Sz n a) (hsb : Sz n b) :
    Calls Tryz.prog 38 #[u, v] w (FracPost (a - b) w) := by
  have HFA := Lib.hid ha
  have HFB := Lib.hid hb
  obtain ⟨A1, c1, l1, A2, c2, l2, rfl, ha1, ha2⟩ := ha
  obtain ⟨A3, c3, l3, A4, c4, l4, rfl, hb1, hb2⟩ := hb
  have la1 := ha1.len hsa.1
  have la2 := ha2.len hsa.2
  have lb1 := hb1.len hsb.1
  have lb2 := hb2.len hsb.2
  obtain ⟨W0, hW0⟩ : ∃ W0, W0 = ((w.alloc (.cells #[.bool (frS a), .slice A1 l1.length c1, .slice A2 l2.length c2] 31)).alloc (.cells #[.bool (frS b), .slice A3 l3.length c3, .slice A4 l4.length c4] 31)).alloc (.cells #[.bool false, .slice none 0 0, .slice none 0 0] 31) := ⟨_, rfl⟩
  have HST0 := Lib.hid (show St w W0 [(w.heap.size, .cells #[.bool (frS a), .slice A1 l1.length c1, .slice A2 l2.length c2] 31 (0, 0)), (w.heap.size + 1, .cells #[.bool (frS b), .slice A3 l3.length c3, .slice A4 l4.length c4] 31 (0, 0)), (w.heap.size + 1 + 1, .cells #[.bool false, .slice none 0 0, .slice none 0 0] 31 (0, 0))] by rw [hW0]; exact (((St.start w).alloc _ _ rfl).alloc _ _ (by simp)).alloc _ _ (by simp))
  have hs0 : W0.heap.size = w.heap.size + 3 := by rw [hW0]; simp
  have HX0 := Lib.hid (show FBox W0 (w.heap.size + 1 + 1) from HST0.out.at 2 rfl)
  have HA1 := Lib.hid (ha1.on HST0.out.below)
  have HA2 := Lib.hid (ha2.on HST0.out.below)
  have HA3 := Lib.hid (hb1.on HST0.out.below)
  have HA4 := Lib.hid (hb2.on HST0.out.below)
  have HM := Lib.hid (fun W (hb : Below W0.heap.size W0 W) => rMinus_any _ b W (HFB.out.on (below_next HST0.out.below hb)))
  have HP := Lib.hid (fun W v5 (hb : Below W0.heap.size W0 W) (h5 : FracR W v5 (-b)) => rPlus_any n _ v5 a (-b) W hn (HFA.out.on (below_next HST0.out.below hb)) h5 hsa (sz_neg hsb))
  rw [← Rat.sub_eq_add_neg] at HP
  clear ha1 ha2 hb1 hb2 hsa hsb
  go_enter Tryz.func38, Tryz.ntmps38
  go_wp2_with fail
  rw [← hW0]
  clear hW0
  have HB := Lib.hid (Below.refl W0.heap.size W0)
  have HKS := Lib.hid (show ∀ X, Below W0.heap.size W0 X → (fun X => Below W0.heap.size W0 X ∧ X.cell? ⟨w.heap.size, 0, none⟩ = some (.bool (frS a)) ∧ X.cell? ⟨w.heap.size, 1, none⟩ = some (.slice A1 l1.length c1) ∧ X.cell? ⟨w.heap.size, 2, none⟩ = some (.slice A2 l2.length c2) ∧ X.cell? ⟨w.heap.size + 1, 0, none⟩ = some (.bool (frS b)) ∧ X.cell? ⟨w.heap.size + 1, 1, none⟩ = some (.slice A3 l3.length c3) ∧ X.cell? ⟨w.heap.size + 1, 2, none⟩ = some (.slice A4 l4.length c4)) X from fun X hX => ⟨hX, (HST0.out.call (below_next HB.out hX)).cell 0 0 rfl rfl, (HST0.out.call (below_next HB.out hX)).cell 0 1 rfl rfl, (HST0.out.call (below_next HB.out hX)).cell 0 2 rfl rfl, (HST0.out.call (below_next HB.out hX)).cell 1 0 rfl rfl, (HST0.out.call (below_next HB.out hX)).cell 1 1 rfl rfl, (HST0.out.call (below_next HB.out hX)).cell 1 2 rfl rfl⟩)
  refine wp_region_last (init := #[_, _, _, _]) (last := _) rfl (by kernel_rfl) (by kernel_rfl) (by kernel_rfl) ?_
  show wpAny _ _ _ _ 4 (Array.replicate 4 false) _ _
  refine wpAny_of_held (S := (fun X => Below W0.heap.size W0 X ∧ X.cell? ⟨w.heap.size, 0, none⟩ = some (.bool (frS a)) ∧ X.cell? ⟨w.heap.size, 1, none⟩ = some (.slice A1 l1.length c1) ∧ X.cell? ⟨w.heap.size, 2, none⟩ = some (.slice A2 l2.length c2) ∧ X.cell? ⟨w.heap.size + 1, 0, none⟩ = some (.bool (frS b)) ∧ X.cell? ⟨w.heap.size + 1, 1, none⟩ = some (.slice A3 l3.length c3) ∧ X.cell? ⟨w.heap.size + 1, 2, none⟩ = some (.slice A4 l4.length c4))) _ _ _ _ ?_
  have HS0 := HKS.out _ (Below.refl _ W0).drew
  refine wpAnyH_take (i := 0) (v := ?_) rfl (by kernel_rfl) (by kernel_rfl) (by kernel_rfl) (fun _ _ _ h => h) (Or.inl ⟨by rfl, ?_⟩) HS0 ?_
  rotate_left
  · intro W hW; (try dsimp only at hW); go_simp; try (with_reducible rfl)
  (try simp only [List.getElem_toArray, List.getElem_cons_zero, Act.put, List.setIfInBounds_toArray, List.set_cons_zero, List.set_cons_succ])
  refine wpAnyH_take (i := 1) (v := ?_) rfl (by kernel_rfl) (by kernel_rfl) (by kernel_rfl) (fun _ _ _ h => h) (Or.inl ⟨by rfl, ?_⟩) HS0 ?_
  rotate_left
  · intro W hW; (try dsimp only at hW); go_simp; try (with_reducible rfl)
  (try simp only [List.getElem_toArray, List.getElem_cons_succ, List.getElem_cons_zero, Act.put, List.setIfInBounds_toArray, List.set_cons_zero, List.set_cons_succ])
  refine run_one (i := 2) (by kernel_rfl) rfl rfl ?_
  intro K hK
  go_simp
  refine (HM.out _ HS0.1).mono ?_
  rintro e w6 ⟨v6, rfl, hv6, hb6⟩
  refine hK.out _ _ (HKS.out _ (below_next HS0.1 hb6)) ?_
  clear hK K
  have HSP := HS0
  clear HS0
  intro HS0
  refine run_one (i := 3) (by kernel_rfl) rfl rfl ?_
  intro K hK
  go_simp
  refine (HP.out _ v6 HS0.1 hv6).mono ?_
  rintro e w7 ⟨v7, rfl, hv7, hb7⟩
  refine hK.out _ _ (HKS.out _ (below_next HS0.1 hb7)) ?_
  clear hK K
  have HSP := HS0
  clear HS0
  intro HS0
  refine wpAnyH_done (by kernel_rfl) ?_ _
  simp only [LastQ]
  have HF := Lib.hid (fun W (hf : Fr (fun i => i = w.heap.size + 1 + 1) w7 W) => frac_ret2 (HX0.out.on HS0.1) hv7 (below_next HST0.out.below HS0.1) (by omega) hf)
  obtain ⟨k0, k1, k2, z0, z1, z2, hlt⟩ := (HX0.out.on HS0.1).facts
  obtain ⟨A8, c8, l8, A9, c9, l9, rfl, _, _⟩ := hv7
  clear HS0 hb6 hb7
  go_simp
  go_wp2
  refine bodyPost_ret (v := .agg #[.bool (frS (a - b)), .slice A8 l8.length c8, .slice A9 l9.length c9]) (by simp [results, Tryz.results38, go_sem, k0, k1, k2]) rfl ⟨_, rfl, HF.out _ (fr3 _ _ _)⟩

end Go.Proofs.YtnpfdelklolchaaGreatDoor
