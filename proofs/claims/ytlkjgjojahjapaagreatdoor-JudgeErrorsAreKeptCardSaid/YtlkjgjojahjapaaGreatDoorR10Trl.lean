/- The reference's trials: the two sides of the ratio of likelihoods. Printed by gen_r10trl.py. -/
import Derived.Test.YtlkjgjojahjapaaGreatDoorG36
import Derived.Test.YtlkjgjojahjapaaGreatDoorG28
import Derived.Test.YtlkjgjojahjapaaGreatDoorG31
namespace Go.Proofs.YtlkjgjojahjapaaGreatDoor
open Go Go.RowKit Go.Proofs

theorem T4_2 {x : Nat} (h : x < 1000000) : x < T4 ^ 2 := by unfold T4; omega
theorem T4_mul {a b s t : Nat} (h1 : a < T4 ^ s) (h2 : b < T4 ^ t) : a * b < T4 ^ (s + t) := by rw [Nat.pow_add]; exact Nat.mul_lt_mul'' h1 h2
theorem T4_under {x m n : Nat} (hx : x < T4 ^ 4) (hm : 4 * m < n) : x ^ m < T4 ^ n := by
  have h1 := Nat.pow_le_pow_left (Nat.le_of_lt hx) m
  rw [← Nat.pow_mul] at h1
  exact Nat.lt_of_le_of_lt h1 (Nat.pow_lt_pow_right (by unfold T4; omega) hm)
theorem T4_pow {x m : Nat} (hx : x < T4 ^ 4) (hm : m ≤ 2000) : x ^ m < T4 ^ 8001 := T4_under (n := 8001) hx (Nat.lt_succ_of_le (Nat.mul_le_mul_left 4 hm))
/-- two numbers of the reference, returned -/
def RPairPost (x y : Nat) (w : World) (e : Ending) (w' : World) : Prop := ∃ A1 c1 l1 A2 c2 l2, e = .returned (.tuple #[.slice A1 (l1 : List Nat).length c1, .slice A2 (l2 : List Nat).length c2]) ∧ RNatR w' A1 c1 l1 x ∧ RNatR w' A2 c2 l2 y ∧ Below w.heap.size w w'
set_option maxHeartbeats 8000000 in
set_option maxRecDepth 100000 in
theorem rSides_any (S0 S1 S2 S3 S4 S5 S6 S7 : ByteArray) (n f : Nat) (p q : Rat) (w : World) (hp : prQ (S0, S1) = p) (hq : prQ (S2, S3) = q) (k0 : cRt S0.data.toList S1.data.toList = 0) (k1 : cRt S2.data.toList S3.data.toList = 0) (hg : TrG p q) (hs : TrS p q) (hf : f ≤ n) (hn : n ≤ 2000) :
    Calls Tryz.prog 128 #[.agg #[.string S0, .string S1, .string S2, .string S3, .string S4, .string S5, .string S6, .string S7], .int .i64 (n : Nat), .int .i64 (f : Nat)] w (RPairPost (trU p q n f) (trD p q n f) w) := by
  obtain ⟨W0, hW0⟩ : ∃ W0, W0 = w.alloc (.cells #[.string S0, .string S1, .string S2, .string S3, .string S4, .string S5, .string S6, .string S7] 25) := ⟨_, rfl⟩
  have HST0 := Lib.hid (show St w W0 [(w.heap.size, .cells #[.string S0, .string S1, .string S2, .string S3, .string S4, .string S5, .string S6, .string S7] 25 (0, 0))] by rw [hW0]; exact (St.start w).alloc _ _ rfl)
  have HK := Lib.hid (show ∀ X, Below W0.heap.size W0 X → X.cell? ⟨w.heap.size, 0, none⟩ = some (.string S0) ∧ X.cell? ⟨w.heap.size, 1, none⟩ = some (.string S1) ∧ X.cell? ⟨w.heap.size, 2, none⟩ = some (.string S2) ∧ X.cell? ⟨w.heap.size, 3, none⟩ = some (.string S3) ∧ X.cell? ⟨w.heap.size, 4, none⟩ = some (.string S4) ∧ X.cell? ⟨w.heap.size, 5, none⟩ = some (.string S5) ∧ X.cell? ⟨w.heap.size, 6, none⟩ = some (.string S6) ∧ X.cell? ⟨w.heap.size, 7, none⟩ = some (.string S7) from fun X hX => ⟨(HST0.out.call hX).cell 0 0 rfl rfl, (HST0.out.call hX).cell 0 1 rfl rfl, (HST0.out.call hX).cell 0 2 rfl rfl, (HST0.out.call hX).cell 0 3 rfl rfl, (HST0.out.call hX).cell 0 4 rfl rfl, (HST0.out.call hX).cell 0 5 rfl rfl, (HST0.out.call hX).cell 0 6 rfl rfl, (HST0.out.call hX).cell 0 7 rfl rfl⟩)
  obtain ⟨p0, p1, p2, p3, p4, p5, p6, p7⟩ := HK.out W0 (Below.refl _ _)
  have HF1 := Lib.hid (fun W => rFrom_any S0 S1 _ _ W rfl rfl k0)
  have HF2 := Lib.hid (fun W => rFrom_any S2 S3 _ _ W rfl rfl k1)
  rw [show ratX S0.data.toList S1.data.toList = p from hp] at HF1
  rw [show ratX S2.data.toList S3.data.toList = q from hq] at HF2
  have a1 := hg.p1
  have a2 := hg.q1
  have a3 := hs.p0
  have a4 := hs.q0
  have x1 : frN p < T4 ^ 2 := T4_2 (by omega)
  have x2 : p.den < T4 ^ 2 := T4_2 a3
  have x3 : frN q < T4 ^ 2 := T4_2 (by omega)
  have x4 : q.den < T4 ^ 2 := T4_2 a4
  have x5 : p.den - frN p < T4 ^ 2 := by omega
  have x6 : q.den - frN q < T4 ^ 2 := by omega
  have e1 : IntKind.i64.wrap ((n : Int) - (f : Int)) = ((n - f : Nat) : Int) := by rw [IntWalk.i64_in _ (by omega)]; omega
  have e2 : (n : Int) - (f : Int) = ((n - f : Nat) : Int) := by omega
  have HU := Lib.hid (show trU p q n f = (frN q * p.den) ^ f * ((q.den - frN q) * p.den) ^ (n - f) from rfl)
  have HD := Lib.hid (show trD p q n f = (frN p * q.den) ^ f * ((p.den - frN p) * q.den) ^ (n - f) from rfl)
  obtain ⟨U, hU⟩ : ∃ u, u = trU p q n f := ⟨_, rfl⟩
  obtain ⟨D, hD⟩ : ∃ u, u = trD p q n f := ⟨_, rfl⟩
  rw [← hU] at HU ⊢
  rw [← hD] at HD ⊢
  have HPF := Lib.hid (fun x (hx : x < T4 ^ 4) W A c l (h : RNatR W A c l x) => rnatPow_any A c l x f 4 W h hx (by omega) (by omega))
  have HPG := Lib.hid (fun x (hx : x < T4 ^ 4) W A c l (h : RNatR W A c l x) => rnatPow_any A c l x (n - f) 4 W h hx (by omega) (by omega))
  have HPGw := Lib.hid HPG.out
  rw [← e1] at HPGw
  rw [← e2] at HPG
  have HM3 := Lib.hid (fun x y (hx : x < T4 ^ 8001) (hy : y < T4 ^ 8001) W A A' c c' l l' (h : RNatR W A c l x) (h' : RNatR W A' c' l' y) => rnatMul_any A A' c c' l l' x y W h h' (by have := h.len hx; omega) (by have := h'.len hy; omega))
  have HX := Lib.hid (And.intro x1 (And.intro x2 (And.intro x3 (And.intro x4 (And.intro x5 x6)))))
  have HLT := Lib.hid (And.intro a1 a2)
  clear hU hD hg hs k0 k1 hp hq x1 x2 x3 x4 x5 x6 a1 a2 a3 a4
  go_enter Tryz.func128, Tryz.ntmps128
  go_wp2_with fail
  rw [← hW0]
  clear hW0
  have HKS := Lib.hid (show ∀ X, Below W0.heap.size W0 X → (fun X => Below W0.heap.size W0 X ∧ X.cell? ⟨w.heap.size, 0, none⟩ = some (.string S0) ∧ X.cell? ⟨w.heap.size, 1, none⟩ = some (.string S1) ∧ X.cell? ⟨w.heap.size, 2, none⟩ = some (.string S2) ∧ X.cell? ⟨w.heap.size, 3, none⟩ = some (.string S3) ∧ X.cell? ⟨w.heap.size, 4, none⟩ = some (.string S4) ∧ X.cell? ⟨w.heap.size, 5, none⟩ = some (.string S5) ∧ X.cell? ⟨w.heap.size, 6, none⟩ = some (.string S6) ∧ X.cell? ⟨w.heap.size, 7, none⟩ = some (.string S7)) X from fun X hX => ⟨hX, HK.out X hX⟩)
  go_cut [8, 9] from 18 (fun x y wx => ∃ B1 B2, x = .pointer (some ⟨B1, 0, none⟩) ∧ y = .pointer (some ⟨B2, 0, none⟩) ∧ VarQ wx B1 p ∧ VarQ wx B2 q ∧ Below W0.heap.size W0 wx)
  case first =>
    refine wp_region_noPanic ?_
    refine wp_region_held_drew (S := (fun X => Below W0.heap.size W0 X ∧ X.cell? ⟨w.heap.size, 0, none⟩ = some (.string S0) ∧ X.cell? ⟨w.heap.size, 1, none⟩ = some (.string S1) ∧ X.cell? ⟨w.heap.size, 2, none⟩ = some (.string S2) ∧ X.cell? ⟨w.heap.size, 3, none⟩ = some (.string S3) ∧ X.cell? ⟨w.heap.size, 4, none⟩ = some (.string S4) ∧ X.cell? ⟨w.heap.size, 5, none⟩ = some (.string S5) ∧ X.cell? ⟨w.heap.size, 6, none⟩ = some (.string S6) ∧ X.cell? ⟨w.heap.size, 7, none⟩ = some (.string S7))) (by kernel_rfl) (HKS.out _ (Below.refl _ W0).drew) (fun HS0 => ?_)
    have hb0 : Below W0.heap.size W0 W0.drew := (Below.refl _ _).drew
    obtain ⟨X0, hX0⟩ : ∃ X, X = W0.drew := ⟨_, rfl⟩
    rw [← hX0] at hb0 HS0 ⊢
    have HB0 := Lib.hid hb0
    clear hb0 hX0
    refine wpAnyH_take (i := 0) (v := ?_) rfl (by kernel_rfl) (by kernel_rfl) (by kernel_rfl) (fun _ _ _ h => h) (Or.inl ⟨by rfl, ?_⟩) HS0 ?_
    rotate_left
    · intro W hW; (try dsimp only at hW); go_simp; try (with_reducible rfl)
    (try simp only [List.getElem_toArray, List.getElem_cons_succ, List.getElem_cons_zero, Act.put, List.setIfInBounds_toArray, List.set_cons_zero, List.set_cons_succ])
    refine wpAnyH_take (i := 1) (v := ?_) rfl (by kernel_rfl) (by kernel_rfl) (by kernel_rfl) (fun _ _ _ h => h) (Or.inl ⟨by rfl, ?_⟩) HS0 ?_
    rotate_left
    · intro W hW; (try dsimp only at hW); go_simp; try (with_reducible rfl)
    (try simp only [List.getElem_toArray, List.getElem_cons_succ, List.getElem_cons_zero, Act.put, List.setIfInBounds_toArray, List.set_cons_zero, List.set_cons_succ])
    refine wpAnyH_take (i := 3) (v := ?_) rfl (by kernel_rfl) (by kernel_rfl) (by kernel_rfl) (fun _ _ _ h => h) (Or.inl ⟨by rfl, ?_⟩) HS0 ?_
    rotate_left
    · intro W hW; (try dsimp only at hW); go_simp; try (with_reducible rfl)
    (try simp only [List.getElem_toArray, List.getElem_cons_succ, List.getElem_cons_zero, Act.put, List.setIfInBounds_toArray, List.set_cons_zero, List.set_cons_succ])
    refine wpAnyH_take (i := 4) (v := ?_) rfl (by kernel_rfl) (by kernel_rfl) (by kernel_rfl) (fun _ _ _ h => h) (Or.inl ⟨by rfl, ?_⟩) HS0 ?_
    rotate_left
    · intro W hW; (try dsimp only at hW); go_simp; try (with_reducible rfl)
    (try simp only [List.getElem_toArray, List.getElem_cons_succ, List.getElem_cons_zero, Act.put, List.setIfInBounds_toArray, List.set_cons_zero, List.set_cons_succ])
    clear HS0
    refine wpAnyH_ready (rs := [2, 6, 7]) (by kernel_rfl) (by simp) ?_
    refine AllReadyH.cons rfl (fun K hK => ?_) ?_
    · go_simp
      (with_reducible refine (HF1.out _).mono ?_)
      rintro e X1 ⟨_, rfl, ⟨A1a, c1a, l1a, A1b, c1b, l1b, rfl, hm1, hn1⟩, hb1⟩
      refine hK.out _ _ (HKS.out _ (below_next (HB0.out) hb1)) ?_
      clear hK K
      intro _
      have HB1 := Lib.hid (below_next (HB0.out) hb1)
      have HN0_1 := Lib.hid hm1
      have HM0_1 := Lib.hid hn1
      clear hm1 hn1 hb1
      (try simp only [List.getElem_toArray, List.getElem_cons_succ, List.getElem_cons_zero, Act.put, List.setIfInBounds_toArray, List.set_cons_zero, List.set_cons_succ])
      refine wpAnyH_ready (rs := [5, 6, 7]) (by kernel_rfl) (by simp) ?_
      refine AllReadyH.cons rfl (fun K hK => ?_) ?_
      · go_simp
        (with_reducible refine (HF2.out _).mono ?_)
        rintro e X2 ⟨_, rfl, ⟨A2a, c2a, l2a, A2b, c2b, l2b, rfl, hm2, hn2⟩, hb2⟩
        refine hK.out _ _ (HKS.out _ (below_next (HB1.out) hb2)) ?_
        clear hK K
        intro _
        have HB2 := Lib.hid (below_next (HB1.out) hb2)
        have HN0_2 := Lib.hid (HN0_1.out.on hb2)
        have HM0_2 := Lib.hid (HM0_1.out.on hb2)
        have HN1_2 := Lib.hid hm2
        have HM1_2 := Lib.hid hn2
        clear hm2 hn2 hb2
        (try simp only [List.getElem_toArray, List.getElem_cons_succ, List.getElem_cons_zero, Act.put, List.setIfInBounds_toArray, List.set_cons_zero, List.set_cons_succ])
        refine wpAnyH_ready (rs := [6, 7]) (by kernel_rfl) (by simp) ?_
        refine AllReadyH.cons rfl (fun K hK => ?_) ?_
        · obtain ⟨X3, hX3⟩ : ∃ X, X = (X2).alloc (.cells #[.bool false, .slice none 0 0, .slice none 0 0] 33) := ⟨_, rfl⟩
          have hb3 : Below (X2).heap.size (X2) X3 := by rw [hX3]; exact (Below.refl _ _).alloc (Nat.le_refl _) _
          have HX0_3 := Lib.hid (show FBox X3 (X2).heap.size by rw [hX3]; exact alloc_at _ _ _ rfl)
          obtain ⟨B3, hB3⟩ : ∃ B, B = (X2).heap.size := ⟨_, rfl⟩
          go_simp
          (try rw [← hX3])
          refine hK.out _ _ (HKS.out _ (below_next (HB2.out) hb3)) ?_
          clear hK K
          intro _
          have HB3 := Lib.hid (below_next (HB2.out) hb3)
          have HN0_3 := Lib.hid (HN0_2.out.on hb3)
          have HM0_3 := Lib.hid (HM0_2.out.on hb3)
          have HN1_3 := Lib.hid (HN1_2.out.on hb3)
          have HM1_3 := Lib.hid (HM1_2.out.on hb3)
          have HW0_3 := Lib.hid (show W0.heap.size ≤ B3 by rw [hB3]; exact (HB2.out).size)
          rw [← hB3] at HX0_3
          (try rw [show (X2).heap.size = B3 from hB3.symm])
          clear hX3 hb3 hB3
          (try simp only [List.getElem_toArray, List.getElem_cons_succ, List.getElem_cons_zero, Act.put, List.setIfInBounds_toArray, List.set_cons_zero, List.set_cons_succ])
          refine wpAnyH_ready (rs := [7]) (by kernel_rfl) (by simp) ?_
          refine AllReadyH.cons rfl (fun K hK => ?_) ?_
          · obtain ⟨X4, hX4⟩ : ∃ X, X = (X3).alloc (.cells #[.bool false, .slice none 0 0, .slice none 0 0] 33) := ⟨_, rfl⟩
            have hb4 : Below (X3).heap.size (X3) X4 := by rw [hX4]; exact (Below.refl _ _).alloc (Nat.le_refl _) _
            have HX1_4 := Lib.hid (show FBox X4 (X3).heap.size by rw [hX4]; exact alloc_at _ _ _ rfl)
            obtain ⟨B4, hB4⟩ : ∃ B, B = (X3).heap.size := ⟨_, rfl⟩
            go_simp
            (try rw [← hX4])
            refine hK.out _ _ (HKS.out _ (below_next (HB3.out) hb4)) ?_
            clear hK K
            intro _
            have HB4 := Lib.hid (below_next (HB3.out) hb4)
            have HN0_4 := Lib.hid (HN0_3.out.on hb4)
            have HM0_4 := Lib.hid (HM0_3.out.on hb4)
            have HN1_4 := Lib.hid (HN1_3.out.on hb4)
            have HM1_4 := Lib.hid (HM1_3.out.on hb4)
            have HX0_4 := Lib.hid (FBox.on HX0_3.out hb4)
            have HW1_4 := Lib.hid (show W0.heap.size ≤ B4 by rw [hB4]; exact (HB3.out).size)
            have HD4 := Lib.hid (show B3 ≠ B4 by rw [hB4]; exact Nat.ne_of_lt (heap_lt (HX0_3.out)))
            rw [← hB4] at HX1_4
            (try rw [show (X3).heap.size = B4 from hB4.symm])
            clear hX4 hb4 hB4
            (try simp only [List.getElem_toArray, List.getElem_cons_succ, List.getElem_cons_zero, Act.put, List.setIfInBounds_toArray, List.set_cons_zero, List.set_cons_succ])
            obtain ⟨k0, k1, k2, z0, z1, z2, hlt⟩ := FBox.facts (HX0_4.out)
            obtain ⟨X5, hX5⟩ : ∃ X, X = (((X4).setCell ⟨B3, 0, none⟩ (.bool (frS p))).setCell ⟨B3, 1, none⟩ (.slice A1a l1a.length c1a)).setCell ⟨B3, 2, none⟩ (.slice A1b l1b.length c1b) := ⟨_, rfl⟩
            have HV0_5 := Lib.hid (show VarQ X5 B3 p by rw [hX5]; exact varq_set (HX0_4.out) (by simp) (HN0_4.out) (HM0_4.out))
            have HB5 := Lib.hid (show Below W0.heap.size W0 X5 by rw [hX5]; exact (((HB4.out).setCell (p := ⟨B3, 0, none⟩) (HW0_3.out) _).setCell (p := ⟨B3, 1, none⟩) (HW0_3.out) _).setCell (p := ⟨B3, 2, none⟩) (HW0_3.out) _)
            have HN1_5 := Lib.hid (show RNatR X5 A2a c2a l2a (frN q) by rw [hX5]; exact rnatr_set3 (HN1_4.out) (HX0_4.out) (by simp))
            have HM1_5 := Lib.hid (show RNatR X5 A2b c2b l2b (q).den by rw [hX5]; exact rnatr_set3 (HM1_4.out) (HX0_4.out) (by simp))
            have HX1_5 := Lib.hid (show FBox X5 B4 by rw [hX5]; exact fbox_far (HX1_4.out) (fun e => HD4.out e.symm) _ _ _)
            refine run_one (i := 8) (by kernel_rfl) rfl rfl ?_
            intro K hK
            go_simp
            rw [← hX5]
            refine hK.out _ _ (HKS.out _ HB5.out) ?_
            clear hK K k0 k1 k2 z0 z1 z2 hlt hX5
            intro _
            (try simp only [List.getElem_toArray, List.getElem_cons_succ, List.getElem_cons_zero, Act.put, List.setIfInBounds_toArray, List.set_cons_zero, List.set_cons_succ])
            obtain ⟨k0, k1, k2, z0, z1, z2, hlt⟩ := FBox.facts (HX1_5.out)
            obtain ⟨X6, hX6⟩ : ∃ X, X = (((X5).setCell ⟨B4, 0, none⟩ (.bool (frS q))).setCell ⟨B4, 1, none⟩ (.slice A2a l2a.length c2a)).setCell ⟨B4, 2, none⟩ (.slice A2b l2b.length c2b) := ⟨_, rfl⟩
            have HV1_6 := Lib.hid (show VarQ X6 B4 q by rw [hX6]; exact varq_set (HX1_5.out) (by simp) (HN1_5.out) (HM1_5.out))
            have HB6 := Lib.hid (show Below W0.heap.size W0 X6 by rw [hX6]; exact (((HB5.out).setCell (p := ⟨B4, 0, none⟩) (HW1_4.out) _).setCell (p := ⟨B4, 1, none⟩) (HW1_4.out) _).setCell (p := ⟨B4, 2, none⟩) (HW1_4.out) _)
            have HV0_6 := Lib.hid (show VarQ X6 B3 p by rw [hX6]; exact varq_far (HV0_5.out) (HX1_5.out) (by simp) HD4.out)
            refine run_one (i := 9) (by kernel_rfl) rfl rfl ?_
            intro K hK
            go_simp
            rw [← hX6]
            refine hK.out _ _ (HKS.out _ HB6.out) ?_
            clear hK K k0 k1 k2 z0 z1 z2 hlt hX6
            intro _
            (try simp only [List.getElem_toArray, List.getElem_cons_succ, List.getElem_cons_zero, Act.put, List.setIfInBounds_toArray, List.set_cons_zero, List.set_cons_succ])
            refine wpAnyH_done (by kernel_rfl) ?_ _
            refine NoPanic.normal ?_
            go_wp2_with fail
            go_meet
            exact ⟨B3, B4, rfl, rfl, HV0_6.out, HV1_6.out, HB6.out⟩
          exact AllReadyH.nil
        refine AllReadyH.cons rfl (fun K hK => ?_) ?_
        · obtain ⟨X7, hX7⟩ : ∃ X, X = (X2).alloc (.cells #[.bool false, .slice none 0 0, .slice none 0 0] 33) := ⟨_, rfl⟩
          have hb7 : Below (X2).heap.size (X2) X7 := by rw [hX7]; exact (Below.refl _ _).alloc (Nat.le_refl _) _
          have HX1_7 := Lib.hid (show FBox X7 (X2).heap.size by rw [hX7]; exact alloc_at _ _ _ rfl)
          obtain ⟨B7, hB7⟩ : ∃ B, B = (X2).heap.size := ⟨_, rfl⟩
          go_simp
          (try rw [← hX7])
          refine hK.out _ _ (HKS.out _ (below_next (HB2.out) hb7)) ?_
          clear hK K
          intro _
          have HB7 := Lib.hid (below_next (HB2.out) hb7)
          have HN0_7 := Lib.hid (HN0_2.out.on hb7)
          have HM0_7 := Lib.hid (HM0_2.out.on hb7)
          have HN1_7 := Lib.hid (HN1_2.out.on hb7)
          have HM1_7 := Lib.hid (HM1_2.out.on hb7)
          have HW1_7 := Lib.hid (show W0.heap.size ≤ B7 by rw [hB7]; exact (HB2.out).size)
          rw [← hB7] at HX1_7
          (try rw [show (X2).heap.size = B7 from hB7.symm])
          clear hX7 hb7 hB7
          (try simp only [List.getElem_toArray, List.getElem_cons_succ, List.getElem_cons_zero, Act.put, List.setIfInBounds_toArray, List.set_cons_zero, List.set_cons_succ])
          refine wpAnyH_ready (rs := [6]) (by kernel_rfl) (by simp) ?_
          refine AllReadyH.cons rfl (fun K hK => ?_) ?_
          · obtain ⟨X8, hX8⟩ : ∃ X, X = (X7).alloc (.cells #[.bool false, .slice none 0 0, .slice none 0 0] 33) := ⟨_, rfl⟩
            have hb8 : Below (X7).heap.size (X7) X8 := by rw [hX8]; exact (Below.refl _ _).alloc (Nat.le_refl _) _
            have HX0_8 := Lib.hid (show FBox X8 (X7).heap.size by rw [hX8]; exact alloc_at _ _ _ rfl)
            obtain ⟨B8, hB8⟩ : ∃ B, B = (X7).heap.size := ⟨_, rfl⟩
            go_simp
            (try rw [← hX8])
            refine hK.out _ _ (HKS.out _ (below_next (HB7.out) hb8)) ?_
            clear hK K
            intro _
            have HB8 := Lib.hid (below_next (HB7.out) hb8)
            have HN0_8 := Lib.hid (HN0_7.out.on hb8)
            have HM0_8 := Lib.hid (HM0_7.out.on hb8)
            have HN1_8 := Lib.hid (HN1_7.out.on hb8)
            have HM1_8 := Lib.hid (HM1_7.out.on hb8)
            have HX1_8 := Lib.hid (FBox.on HX1_7.out hb8)
            have HW0_8 := Lib.hid (show W0.heap.size ≤ B8 by rw [hB8]; exact (HB7.out).size)
            have HD8 := Lib.hid (show B7 ≠ B8 by rw [hB8]; exact Nat.ne_of_lt (heap_lt (HX1_7.out)))
            rw [← hB8] at HX0_8
            (try rw [show (X7).heap.size = B8 from hB8.symm])
            clear hX8 hb8 hB8
            (try simp only [List.getElem_toArray, List.getElem_cons_succ, List.getElem_cons_zero, Act.put, List.setIfInBounds_toArray, List.set_cons_zero, List.set_cons_succ])
            obtain ⟨k0, k1, k2, z0, z1, z2, hlt⟩ := FBox.facts (HX0_8.out)
            obtain ⟨X9, hX9⟩ : ∃ X, X = (((X8).setCell ⟨B8, 0, none⟩ (.bool (frS p))).setCell ⟨B8, 1, none⟩ (.slice A1a l1a.length c1a)).setCell ⟨B8, 2, none⟩ (.slice A1b l1b.length c1b) := ⟨_, rfl⟩
            have HV0_9 := Lib.hid (show VarQ X9 B8 p by rw [hX9]; exact varq_set (HX0_8.out) (by simp) (HN0_8.out) (HM0_8.out))
            have HB9 := Lib.hid (show Below W0.heap.size W0 X9 by rw [hX9]; exact (((HB8.out).setCell (p := ⟨B8, 0, none⟩) (HW0_8.out) _).setCell (p := ⟨B8, 1, none⟩) (HW0_8.out) _).setCell (p := ⟨B8, 2, none⟩) (HW0_8.out) _)
            have HN1_9 := Lib.hid (show RNatR X9 A2a c2a l2a (frN q) by rw [hX9]; exact rnatr_set3 (HN1_8.out) (HX0_8.out) (by simp))
            have HM1_9 := Lib.hid (show RNatR X9 A2b c2b l2b (q).den by rw [hX9]; exact rnatr_set3 (HM1_8.out) (HX0_8.out) (by simp))
            have HX1_9 := Lib.hid (show FBox X9 B7 by rw [hX9]; exact fbox_far (HX1_8.out) HD8.out _ _ _)
            refine run_one (i := 8) (by kernel_rfl) rfl rfl ?_
            intro K hK
            go_simp
            rw [← hX9]
            refine hK.out _ _ (HKS.out _ HB9.out) ?_
            clear hK K k0 k1 k2 z0 z1 z2 hlt hX9
            intro _
            (try simp only [List.getElem_toArray, List.getElem_cons_succ, List.getElem_cons_zero, Act.put, List.setIfInBounds_toArray, List.set_cons_zero, List.set_cons_succ])
            obtain ⟨k0, k1, k2, z0, z1, z2, hlt⟩ := FBox.facts (HX1_9.out)
            obtain ⟨X10, hX10⟩ : ∃ X, X = (((X9).setCell ⟨B7, 0, none⟩ (.bool (frS q))).setCell ⟨B7, 1, none⟩ (.slice A2a l2a.length c2a)).setCell ⟨B7, 2, none⟩ (.slice A2b l2b.length c2b) := ⟨_, rfl⟩
            have HV1_10 := Lib.hid (show VarQ X10 B7 q by rw [hX10]; exact varq_set (HX1_9.out) (by simp) (HN1_9.out) (HM1_9.out))
            have HB10 := Lib.hid (show Below W0.heap.size W0 X10 by rw [hX10]; exact (((HB9.out).setCell (p := ⟨B7, 0, none⟩) (HW1_7.out) _).setCell (p := ⟨B7, 1, none⟩) (HW1_7.out) _).setCell (p := ⟨B7, 2, none⟩) (HW1_7.out) _)
            have HV0_10 := Lib.hid (show VarQ X10 B8 p by rw [hX10]; exact varq_far (HV0_9.out) (HX1_9.out) (by simp) (fun e => HD8.out e.symm))
            refine run_one (i := 9) (by kernel_rfl) rfl rfl ?_
            intro K hK
            go_simp
            rw [← hX10]
            refine hK.out _ _ (HKS.out _ HB10.out) ?_
            clear hK K k0 k1 k2 z0 z1 z2 hlt hX10
            intro _
            (try simp only [List.getElem_toArray, List.getElem_cons_succ, List.getElem_cons_zero, Act.put, List.setIfInBounds_toArray, List.set_cons_zero, List.set_cons_succ])
            refine wpAnyH_done (by kernel_rfl) ?_ _
            refine NoPanic.normal ?_
            go_wp2_with fail
            go_meet
            exact ⟨B8, B7, rfl, rfl, HV0_10.out, HV1_10.out, HB10.out⟩
          exact AllReadyH.nil
        exact AllReadyH.nil
      refine AllReadyH.cons rfl (fun K hK => ?_) ?_
      · obtain ⟨X11, hX11⟩ : ∃ X, X = (X1).alloc (.cells #[.bool false, .slice none 0 0, .slice none 0 0] 33) := ⟨_, rfl⟩
        have hb11 : Below (X1).heap.size (X1) X11 := by rw [hX11]; exact (Below.refl _ _).alloc (Nat.le_refl _) _
        have HX0_11 := Lib.hid (show FBox X11 (X1).heap.size by rw [hX11]; exact alloc_at _ _ _ rfl)
        obtain ⟨B11, hB11⟩ : ∃ B, B = (X1).heap.size := ⟨_, rfl⟩
        go_simp
        (try rw [← hX11])
        refine hK.out _ _ (HKS.out _ (below_next (HB1.out) hb11)) ?_
        clear hK K
        intro _
        have HB11 := Lib.hid (below_next (HB1.out) hb11)
        have HN0_11 := Lib.hid (HN0_1.out.on hb11)
        have HM0_11 := Lib.hid (HM0_1.out.on hb11)
        have HW0_11 := Lib.hid (show W0.heap.size ≤ B11 by rw [hB11]; exact (HB1.out).size)
        rw [← hB11] at HX0_11
        (try rw [show (X1).heap.size = B11 from hB11.symm])
        clear hX11 hb11 hB11
        (try simp only [List.getElem_toArray, List.getElem_cons_succ, List.getElem_cons_zero, Act.put, List.setIfInBounds_toArray, List.set_cons_zero, List.set_cons_succ])
        refine wpAnyH_ready (rs := [5, 7]) (by kernel_rfl) (by simp) ?_
        refine AllReadyH.cons rfl (fun K hK => ?_) ?_
        · go_simp
          (with_reducible refine (HF2.out _).mono ?_)
          rintro e X12 ⟨_, rfl, ⟨A12a, c12a, l12a, A12b, c12b, l12b, rfl, hm12, hn12⟩, hb12⟩
          refine hK.out _ _ (HKS.out _ (below_next (HB11.out) hb12)) ?_
          clear hK K
          intro _
          have HB12 := Lib.hid (below_next (HB11.out) hb12)
          have HN0_12 := Lib.hid (HN0_11.out.on hb12)
          have HM0_12 := Lib.hid (HM0_11.out.on hb12)
          have HX0_12 := Lib.hid (FBox.on HX0_11.out hb12)
          have HN1_12 := Lib.hid hm12
          have HM1_12 := Lib.hid hn12
          clear hm12 hn12 hb12
          (try simp only [List.getElem_toArray, List.getElem_cons_succ, List.getElem_cons_zero, Act.put, List.setIfInBounds_toArray, List.set_cons_zero, List.set_cons_succ])
          refine wpAnyH_ready (rs := [7]) (by kernel_rfl) (by simp) ?_
          refine AllReadyH.cons rfl (fun K hK => ?_) ?_
          · obtain ⟨X13, hX13⟩ : ∃ X, X = (X12).alloc (.cells #[.bool false, .slice none 0 0, .slice none 0 0] 33) := ⟨_, rfl⟩
            have hb13 : Below (X12).heap.size (X12) X13 := by rw [hX13]; exact (Below.refl _ _).alloc (Nat.le_refl _) _
            have HX1_13 := Lib.hid (show FBox X13 (X12).heap.size by rw [hX13]; exact alloc_at _ _ _ rfl)
            obtain ⟨B13, hB13⟩ : ∃ B, B = (X12).heap.size := ⟨_, rfl⟩
            go_simp
            (try rw [← hX13])
            refine hK.out _ _ (HKS.out _ (below_next (HB12.out) hb13)) ?_
            clear hK K
            intro _
            have HB13 := Lib.hid (below_next (HB12.out) hb13)
            have HN0_13 := Lib.hid (HN0_12.out.on hb13)
            have HM0_13 := Lib.hid (HM0_12.out.on hb13)
            have HN1_13 := Lib.hid (HN1_12.out.on hb13)
            have HM1_13 := Lib.hid (HM1_12.out.on hb13)
            have HX0_13 := Lib.hid (FBox.on HX0_12.out hb13)
            have HW1_13 := Lib.hid (show W0.heap.size ≤ B13 by rw [hB13]; exact (HB12.out).size)
            have HD13 := Lib.hid (show B11 ≠ B13 by rw [hB13]; exact Nat.ne_of_lt (heap_lt (HX0_12.out)))
            rw [← hB13] at HX1_13
            (try rw [show (X12).heap.size = B13 from hB13.symm])
            clear hX13 hb13 hB13
            (try simp only [List.getElem_toArray, List.getElem_cons_succ, List.getElem_cons_zero, Act.put, List.setIfInBounds_toArray, List.set_cons_zero, List.set_cons_succ])
            obtain ⟨k0, k1, k2, z0, z1, z2, hlt⟩ := FBox.facts (HX0_13.out)
            obtain ⟨X14, hX14⟩ : ∃ X, X = (((X13).setCell ⟨B11, 0, none⟩ (.bool (frS p))).setCell ⟨B11, 1, none⟩ (.slice A1a l1a.length c1a)).setCell ⟨B11, 2, none⟩ (.slice A1b l1b.length c1b) := ⟨_, rfl⟩
            have HV0_14 := Lib.hid (show VarQ X14 B11 p by rw [hX14]; exact varq_set (HX0_13.out) (by simp) (HN0_13.out) (HM0_13.out))
            have HB14 := Lib.hid (show Below W0.heap.size W0 X14 by rw [hX14]; exact (((HB13.out).setCell (p := ⟨B11, 0, none⟩) (HW0_11.out) _).setCell (p := ⟨B11, 1, none⟩) (HW0_11.out) _).setCell (p := ⟨B11, 2, none⟩) (HW0_11.out) _)
            have HN1_14 := Lib.hid (show RNatR X14 A12a c12a l12a (frN q) by rw [hX14]; exact rnatr_set3 (HN1_13.out) (HX0_13.out) (by simp))
            have HM1_14 := Lib.hid (show RNatR X14 A12b c12b l12b (q).den by rw [hX14]; exact rnatr_set3 (HM1_13.out) (HX0_13.out) (by simp))
            have HX1_14 := Lib.hid (show FBox X14 B13 by rw [hX14]; exact fbox_far (HX1_13.out) (fun e => HD13.out e.symm) _ _ _)
            refine run_one (i := 8) (by kernel_rfl) rfl rfl ?_
            intro K hK
            go_simp
            rw [← hX14]
            refine hK.out _ _ (HKS.out _ HB14.out) ?_
            clear hK K k0 k1 k2 z0 z1 z2 hlt hX14
            intro _
            (try simp only [List.getElem_toArray, List.getElem_cons_succ, List.getElem_cons_zero, Act.put, List.setIfInBounds_toArray, List.set_cons_zero, List.set_cons_succ])
            obtain ⟨k0, k1, k2, z0, z1, z2, hlt⟩ := FBox.facts (HX1_14.out)
            obtain ⟨X15, hX15⟩ : ∃ X, X = (((X14).setCell ⟨B13, 0, none⟩ (.bool (frS q))).setCell ⟨B13, 1, none⟩ (.slice A12a l12a.length c12a)).setCell ⟨B13, 2, none⟩ (.slice A12b l12b.length c12b) := ⟨_, rfl⟩
            have HV1_15 := Lib.hid (show VarQ X15 B13 q by rw [hX15]; exact varq_set (HX1_14.out) (by simp) (HN1_14.out) (HM1_14.out))
            have HB15 := Lib.hid (show Below W0.heap.size W0 X15 by rw [hX15]; exact (((HB14.out).setCell (p := ⟨B13, 0, none⟩) (HW1_13.out) _).setCell (p := ⟨B13, 1, none⟩) (HW1_13.out) _).setCell (p := ⟨B13, 2, none⟩) (HW1_13.out) _)
            have HV0_15 := Lib.hid (show VarQ X15 B11 p by rw [hX15]; exact varq_far (HV0_14.out) (HX1_14.out) (by simp) HD13.out)
            refine run_one (i := 9) (by kernel_rfl) rfl rfl ?_
            intro K hK
            go_simp
            rw [← hX15]
            refine hK.out _ _ (HKS.out _ HB15.out) ?_
            clear hK K k0 k1 k2 z0 z1 z2 hlt hX15
            intro _
            (try simp only [List.getElem_toArray, List.getElem_cons_succ, List.getElem_cons_zero, Act.put, List.setIfInBounds_toArray, List.set_cons_zero, List.set_cons_succ])
            refine wpAnyH_done (by kernel_rfl) ?_ _
            refine NoPanic.normal ?_
            go_wp2_with fail
            go_meet
            exact ⟨B11, B13, rfl, rfl, HV0_15.out, HV1_15.out, HB15.out⟩
          exact AllReadyH.nil
        refine AllReadyH.cons rfl (fun K hK => ?_) ?_
        · obtain ⟨X16, hX16⟩ : ∃ X, X = (X11).alloc (.cells #[.bool false, .slice none 0 0, .slice none 0 0] 33) := ⟨_, rfl⟩
          have hb16 : Below (X11).heap.size (X11) X16 := by rw [hX16]; exact (Below.refl _ _).alloc (Nat.le_refl _) _
          have HX1_16 := Lib.hid (show FBox X16 (X11).heap.size by rw [hX16]; exact alloc_at _ _ _ rfl)
          obtain ⟨B16, hB16⟩ : ∃ B, B = (X11).heap.size := ⟨_, rfl⟩
          go_simp
          (try rw [← hX16])
          refine hK.out _ _ (HKS.out _ (below_next (HB11.out) hb16)) ?_
          clear hK K
          intro _
          have HB16 := Lib.hid (below_next (HB11.out) hb16)
          have HN0_16 := Lib.hid (HN0_11.out.on hb16)
          have HM0_16 := Lib.hid (HM0_11.out.on hb16)
          have HX0_16 := Lib.hid (FBox.on HX0_11.out hb16)
          have HW1_16 := Lib.hid (show W0.heap.size ≤ B16 by rw [hB16]; exact (HB11.out).size)
          have HD16 := Lib.hid (show B11 ≠ B16 by rw [hB16]; exact Nat.ne_of_lt (heap_lt (HX0_11.out)))
          rw [← hB16] at HX1_16
          (try rw [show (X11).heap.size = B16 from hB16.symm])
          clear hX16 hb16 hB16
          (try simp only [List.getElem_toArray, List.getElem_cons_succ, List.getElem_cons_zero, Act.put, List.setIfInBounds_toArray, List.set_cons_zero, List.set_cons_succ])
          refine wpAnyH_ready (rs := [5]) (by kernel_rfl) (by simp) ?_
          refine AllReadyH.cons rfl (fun K hK => ?_) ?_
          · go_simp
            (with_reducible refine (HF2.out _).mono ?_)
            rintro e X17 ⟨_, rfl, ⟨A17a, c17a, l17a, A17b, c17b, l17b, rfl, hm17, hn17⟩, hb17⟩
            refine hK.out _ _ (HKS.out _ (below_next (HB16.out) hb17)) ?_
            clear hK K
            intro _
            have HB17 := Lib.hid (below_next (HB16.out) hb17)
            have HN0_17 := Lib.hid (HN0_16.out.on hb17)
            have HM0_17 := Lib.hid (HM0_16.out.on hb17)
            have HX0_17 := Lib.hid (FBox.on HX0_16.out hb17)
            have HX1_17 := Lib.hid (FBox.on HX1_16.out hb17)
            have HN1_17 := Lib.hid hm17
            have HM1_17 := Lib.hid hn17
            clear hm17 hn17 hb17
            (try simp only [List.getElem_toArray, List.getElem_cons_succ, List.getElem_cons_zero, Act.put, List.setIfInBounds_toArray, List.set_cons_zero, List.set_cons_succ])
            obtain ⟨k0, k1, k2, z0, z1, z2, hlt⟩ := FBox.facts (HX0_17.out)
            obtain ⟨X18, hX18⟩ : ∃ X, X = (((X17).setCell ⟨B11, 0, none⟩ (.bool (frS p))).setCell ⟨B11, 1, none⟩ (.slice A1a l1a.length c1a)).setCell ⟨B11, 2, none⟩ (.slice A1b l1b.length c1b) := ⟨_, rfl⟩
            have HV0_18 := Lib.hid (show VarQ X18 B11 p by rw [hX18]; exact varq_set (HX0_17.out) (by simp) (HN0_17.out) (HM0_17.out))
            have HB18 := Lib.hid (show Below W0.heap.size W0 X18 by rw [hX18]; exact (((HB17.out).setCell (p := ⟨B11, 0, none⟩) (HW0_11.out) _).setCell (p := ⟨B11, 1, none⟩) (HW0_11.out) _).setCell (p := ⟨B11, 2, none⟩) (HW0_11.out) _)
            have HN1_18 := Lib.hid (show RNatR X18 A17a c17a l17a (frN q) by rw [hX18]; exact rnatr_set3 (HN1_17.out) (HX0_17.out) (by simp))
            have HM1_18 := Lib.hid (show RNatR X18 A17b c17b l17b (q).den by rw [hX18]; exact rnatr_set3 (HM1_17.out) (HX0_17.out) (by simp))
            have HX1_18 := Lib.hid (show FBox X18 B16 by rw [hX18]; exact fbox_far (HX1_17.out) (fun e => HD16.out e.symm) _ _ _)
            refine run_one (i := 8) (by kernel_rfl) rfl rfl ?_
            intro K hK
            go_simp
            rw [← hX18]
            refine hK.out _ _ (HKS.out _ HB18.out) ?_
            clear hK K k0 k1 k2 z0 z1 z2 hlt hX18
            intro _
            (try simp only [List.getElem_toArray, List.getElem_cons_succ, List.getElem_cons_zero, Act.put, List.setIfInBounds_toArray, List.set_cons_zero, List.set_cons_succ])
            obtain ⟨k0, k1, k2, z0, z1, z2, hlt⟩ := FBox.facts (HX1_18.out)
            obtain ⟨X19, hX19⟩ : ∃ X, X = (((X18).setCell ⟨B16, 0, none⟩ (.bool (frS q))).setCell ⟨B16, 1, none⟩ (.slice A17a l17a.length c17a)).setCell ⟨B16, 2, none⟩ (.slice A17b l17b.length c17b) := ⟨_, rfl⟩
            have HV1_19 := Lib.hid (show VarQ X19 B16 q by rw [hX19]; exact varq_set (HX1_18.out) (by simp) (HN1_18.out) (HM1_18.out))
            have HB19 := Lib.hid (show Below W0.heap.size W0 X19 by rw [hX19]; exact (((HB18.out).setCell (p := ⟨B16, 0, none⟩) (HW1_16.out) _).setCell (p := ⟨B16, 1, none⟩) (HW1_16.out) _).setCell (p := ⟨B16, 2, none⟩) (HW1_16.out) _)
            have HV0_19 := Lib.hid (show VarQ X19 B11 p by rw [hX19]; exact varq_far (HV0_18.out) (HX1_18.out) (by simp) HD16.out)
            refine run_one (i := 9) (by kernel_rfl) rfl rfl ?_
            intro K hK
            go_simp
            rw [← hX19]
            refine hK.out _ _ (HKS.out _ HB19.out) ?_
            clear hK K k0 k1 k2 z0 z1 z2 hlt hX19
            intro _
            (try simp only [List.getElem_toArray, List.getElem_cons_succ, List.getElem_cons_zero, Act.put, List.setIfInBounds_toArray, List.set_cons_zero, List.set_cons_succ])
            refine wpAnyH_done (by kernel_rfl) ?_ _
            refine NoPanic.normal ?_
            go_wp2_with fail
            go_meet
            exact ⟨B11, B16, rfl, rfl, HV0_19.out, HV1_19.out, HB19.out⟩
          exact AllReadyH.nil
        exact AllReadyH.nil
      refine AllReadyH.cons rfl (fun K hK => ?_) ?_
      · obtain ⟨X20, hX20⟩ : ∃ X, X = (X1).alloc (.cells #[.bool false, .slice none 0 0, .slice none 0 0] 33) := ⟨_, rfl⟩
        have hb20 : Below (X1).heap.size (X1) X20 := by rw [hX20]; exact (Below.refl _ _).alloc (Nat.le_refl _) _
        have HX1_20 := Lib.hid (show FBox X20 (X1).heap.size by rw [hX20]; exact alloc_at _ _ _ rfl)
        obtain ⟨B20, hB20⟩ : ∃ B, B = (X1).heap.size := ⟨_, rfl⟩
        go_simp
        (try rw [← hX20])
        refine hK.out _ _ (HKS.out _ (below_next (HB1.out) hb20)) ?_
        clear hK K
        intro _
        have HB20 := Lib.hid (below_next (HB1.out) hb20)
        have HN0_20 := Lib.hid (HN0_1.out.on hb20)
        have HM0_20 := Lib.hid (HM0_1.out.on hb20)
        have HW1_20 := Lib.hid (show W0.heap.size ≤ B20 by rw [hB20]; exact (HB1.out).size)
        rw [← hB20] at HX1_20
        (try rw [show (X1).heap.size = B20 from hB20.symm])
        clear hX20 hb20 hB20
        (try simp only [List.getElem_toArray, List.getElem_cons_succ, List.getElem_cons_zero, Act.put, List.setIfInBounds_toArray, List.set_cons_zero, List.set_cons_succ])
        refine wpAnyH_ready (rs := [5, 6]) (by kernel_rfl) (by simp) ?_
        refine AllReadyH.cons rfl (fun K hK => ?_) ?_
        · go_simp
          (with_reducible refine (HF2.out _).mono ?_)
          rintro e X21 ⟨_, rfl, ⟨A21a, c21a, l21a, A21b, c21b, l21b, rfl, hm21, hn21⟩, hb21⟩
          refine hK.out _ _ (HKS.out _ (below_next (HB20.out) hb21)) ?_
          clear hK K
          intro _
          have HB21 := Lib.hid (below_next (HB20.out) hb21)
          have HN0_21 := Lib.hid (HN0_20.out.on hb21)
          have HM0_21 := Lib.hid (HM0_20.out.on hb21)
          have HX1_21 := Lib.hid (FBox.on HX1_20.out hb21)
          have HN1_21 := Lib.hid hm21
          have HM1_21 := Lib.hid hn21
          clear hm21 hn21 hb21
          (try simp only [List.getElem_toArray, List.getElem_cons_succ, List.getElem_cons_zero, Act.put, List.setIfInBounds_toArray, List.set_cons_zero, List.set_cons_succ])
          refine wpAnyH_ready (rs := [6]) (by kernel_rfl) (by simp) ?_
          refine AllReadyH.cons rfl (fun K hK => ?_) ?_
          · obtain ⟨X22, hX22⟩ : ∃ X, X = (X21).alloc (.cells #[.bool false, .slice none 0 0, .slice none 0 0] 33) := ⟨_, rfl⟩
            have hb22 : Below (X21).heap.size (X21) X22 := by rw [hX22]; exact (Below.refl _ _).alloc (Nat.le_refl _) _
            have HX0_22 := Lib.hid (show FBox X22 (X21).heap.size by rw [hX22]; exact alloc_at _ _ _ rfl)
            obtain ⟨B22, hB22⟩ : ∃ B, B = (X21).heap.size := ⟨_, rfl⟩
            go_simp
            (try rw [← hX22])
            refine hK.out _ _ (HKS.out _ (below_next (HB21.out) hb22)) ?_
            clear hK K
            intro _
            have HB22 := Lib.hid (below_next (HB21.out) hb22)
            have HN0_22 := Lib.hid (HN0_21.out.on hb22)
            have HM0_22 := Lib.hid (HM0_21.out.on hb22)
            have HN1_22 := Lib.hid (HN1_21.out.on hb22)
            have HM1_22 := Lib.hid (HM1_21.out.on hb22)
            have HX1_22 := Lib.hid (FBox.on HX1_21.out hb22)
            have HW0_22 := Lib.hid (show W0.heap.size ≤ B22 by rw [hB22]; exact (HB21.out).size)
            have HD22 := Lib.hid (show B20 ≠ B22 by rw [hB22]; exact Nat.ne_of_lt (heap_lt (HX1_21.out)))
            rw [← hB22] at HX0_22
            (try rw [show (X21).heap.size = B22 from hB22.symm])
            clear hX22 hb22 hB22
            (try simp only [List.getElem_toArray, List.getElem_cons_succ, List.getElem_cons_zero, Act.put, List.setIfInBounds_toArray, List.set_cons_zero, List.set_cons_succ])
            obtain ⟨k0, k1, k2, z0, z1, z2, hlt⟩ := FBox.facts (HX0_22.out)
            obtain ⟨X23, hX23⟩ : ∃ X, X = (((X22).setCell ⟨B22, 0, none⟩ (.bool (frS p))).setCell ⟨B22, 1, none⟩ (.slice A1a l1a.length c1a)).setCell ⟨B22, 2, none⟩ (.slice A1b l1b.length c1b) := ⟨_, rfl⟩
            have HV0_23 := Lib.hid (show VarQ X23 B22 p by rw [hX23]; exact varq_set (HX0_22.out) (by simp) (HN0_22.out) (HM0_22.out))
            have HB23 := Lib.hid (show Below W0.heap.size W0 X23 by rw [hX23]; exact (((HB22.out).setCell (p := ⟨B22, 0, none⟩) (HW0_22.out) _).setCell (p := ⟨B22, 1, none⟩) (HW0_22.out) _).setCell (p := ⟨B22, 2, none⟩) (HW0_22.out) _)
            have HN1_23 := Lib.hid (show RNatR X23 A21a c21a l21a (frN q) by rw [hX23]; exact rnatr_set3 (HN1_22.out) (HX0_22.out) (by simp))
            have HM1_23 := Lib.hid (show RNatR X23 A21b c21b l21b (q).den by rw [hX23]; exact rnatr_set3 (HM1_22.out) (HX0_22.out) (by simp))
            have HX1_23 := Lib.hid (show FBox X23 B20 by rw [hX23]; exact fbox_far (HX1_22.out) HD22.out _ _ _)
            refine run_one (i := 8) (by kernel_rfl) rfl rfl ?_
            intro K hK
            go_simp
            rw [← hX23]
            refine hK.out _ _ (HKS.out _ HB23.out) ?_
            clear hK K k0 k1 k2 z0 z1 z2 hlt hX23
            intro _
            (try simp only [List.getElem_toArray, List.getElem_cons_succ, List.getElem_cons_zero, Act.put, List.setIfInBounds_toArray, List.set_cons_zero, List.set_cons_succ])
            obtain ⟨k0, k1, k2, z0, z1, z2, hlt⟩ := FBox.facts (HX1_23.out)
            obtain ⟨X24, hX24⟩ : ∃ X, X = (((X23).setCell ⟨B20, 0, none⟩ (.bool (frS q))).setCell ⟨B20, 1, none⟩ (.slice A21a l21a.length c21a)).setCell ⟨B20, 2, none⟩ (.slice A21b l21b.length c21b) := ⟨_, rfl⟩
            have HV1_24 := Lib.hid (show VarQ X24 B20 q by rw [hX24]; exact varq_set (HX1_23.out) (by simp) (HN1_23.out) (HM1_23.out))
            have HB24 := Lib.hid (show Below W0.heap.size W0 X24 by rw [hX24]; exact (((HB23.out).setCell (p := ⟨B20, 0, none⟩) (HW1_20.out) _).setCell (p := ⟨B20, 1, none⟩) (HW1_20.out) _).setCell (p := ⟨B20, 2, none⟩) (HW1_20.out) _)
            have HV0_24 := Lib.hid (show VarQ X24 B22 p by rw [hX24]; exact varq_far (HV0_23.out) (HX1_23.out) (by simp) (fun e => HD22.out e.symm))
            refine run_one (i := 9) (by kernel_rfl) rfl rfl ?_
            intro K hK
            go_simp
            rw [← hX24]
            refine hK.out _ _ (HKS.out _ HB24.out) ?_
            clear hK K k0 k1 k2 z0 z1 z2 hlt hX24
            intro _
            (try simp only [List.getElem_toArray, List.getElem_cons_succ, List.getElem_cons_zero, Act.put, List.setIfInBounds_toArray, List.set_cons_zero, List.set_cons_succ])
            refine wpAnyH_done (by kernel_rfl) ?_ _
            refine NoPanic.normal ?_
            go_wp2_with fail
            go_meet
            exact ⟨B22, B20, rfl, rfl, HV0_24.out, HV1_24.out, HB24.out⟩
          exact AllReadyH.nil
        refine AllReadyH.cons rfl (fun K hK => ?_) ?_
        · obtain ⟨X25, hX25⟩ : ∃ X, X = (X20).alloc (.cells #[.bool false, .slice none 0 0, .slice none 0 0] 33) := ⟨_, rfl⟩
          have hb25 : Below (X20).heap.size (X20) X25 := by rw [hX25]; exact (Below.refl _ _).alloc (Nat.le_refl _) _
          have HX0_25 := Lib.hid (show FBox X25 (X20).heap.size by rw [hX25]; exact alloc_at _ _ _ rfl)
          obtain ⟨B25, hB25⟩ : ∃ B, B = (X20).heap.size := ⟨_, rfl⟩
          go_simp
          (try rw [← hX25])
          refine hK.out _ _ (HKS.out _ (below_next (HB20.out) hb25)) ?_
          clear hK K
          intro _
          have HB25 := Lib.hid (below_next (HB20.out) hb25)
          have HN0_25 := Lib.hid (HN0_20.out.on hb25)
          have HM0_25 := Lib.hid (HM0_20.out.on hb25)
          have HX1_25 := Lib.hid (FBox.on HX1_20.out hb25)
          have HW0_25 := Lib.hid (show W0.heap.size ≤ B25 by rw [hB25]; exact (HB20.out).size)
          have HD25 := Lib.hid (show B20 ≠ B25 by rw [hB25]; exact Nat.ne_of_lt (heap_lt (HX1_20.out)))
          rw [← hB25] at HX0_25
          (try rw [show (X20).heap.size = B25 from hB25.symm])
          clear hX25 hb25 hB25
          (try simp only [List.getElem_toArray, List.getElem_cons_succ, List.getElem_cons_zero, Act.put, List.setIfInBounds_toArray, List.set_cons_zero, List.set_cons_succ])
          refine wpAnyH_ready (rs := [5]) (by kernel_rfl) (by simp) ?_
          refine AllReadyH.cons rfl (fun K hK => ?_) ?_
          · go_simp
            (with_reducible refine (HF2.out _).mono ?_)
            rintro e X26 ⟨_, rfl, ⟨A26a, c26a, l26a, A26b, c26b, l26b, rfl, hm26, hn26⟩, hb26⟩
            refine hK.out _ _ (HKS.out _ (below_next (HB25.out) hb26)) ?_
            clear hK K
            intro _
            have HB26 := Lib.hid (below_next (HB25.out) hb26)
            have HN0_26 := Lib.hid (HN0_25.out.on hb26)
            have HM0_26 := Lib.hid (HM0_25.out.on hb26)
            have HX1_26 := Lib.hid (FBox.on HX1_25.out hb26)
            have HX0_26 := Lib.hid (FBox.on HX0_25.out hb26)
            have HN1_26 := Lib.hid hm26
            have HM1_26 := Lib.hid hn26
            clear hm26 hn26 hb26
            (try simp only [List.getElem_toArray, List.getElem_cons_succ, List.getElem_cons_zero, Act.put, List.setIfInBounds_toArray, List.set_cons_zero, List.set_cons_succ])
            obtain ⟨k0, k1, k2, z0, z1, z2, hlt⟩ := FBox.facts (HX0_26.out)
            obtain ⟨X27, hX27⟩ : ∃ X, X = (((X26).setCell ⟨B25, 0, none⟩ (.bool (frS p))).setCell ⟨B25, 1, none⟩ (.slice A1a l1a.length c1a)).setCell ⟨B25, 2, none⟩ (.slice A1b l1b.length c1b) := ⟨_, rfl⟩
            have HV0_27 := Lib.hid (show VarQ X27 B25 p by rw [hX27]; exact varq_set (HX0_26.out) (by simp) (HN0_26.out) (HM0_26.out))
            have HB27 := Lib.hid (show Below W0.heap.size W0 X27 by rw [hX27]; exact (((HB26.out).setCell (p := ⟨B25, 0, none⟩) (HW0_25.out) _).setCell (p := ⟨B25, 1, none⟩) (HW0_25.out) _).setCell (p := ⟨B25, 2, none⟩) (HW0_25.out) _)
            have HN1_27 := Lib.hid (show RNatR X27 A26a c26a l26a (frN q) by rw [hX27]; exact rnatr_set3 (HN1_26.out) (HX0_26.out) (by simp))
            have HM1_27 := Lib.hid (show RNatR X27 A26b c26b l26b (q).den by rw [hX27]; exact rnatr_set3 (HM1_26.out) (HX0_26.out) (by simp))
            have HX1_27 := Lib.hid (show FBox X27 B20 by rw [hX27]; exact fbox_far (HX1_26.out) HD25.out _ _ _)
            refine run_one (i := 8) (by kernel_rfl) rfl rfl ?_
            intro K hK
            go_simp
            rw [← hX27]
            refine hK.out _ _ (HKS.out _ HB27.out) ?_
            clear hK K k0 k1 k2 z0 z1 z2 hlt hX27
            intro _
            (try simp only [List.getElem_toArray, List.getElem_cons_succ, List.getElem_cons_zero, Act.put, List.setIfInBounds_toArray, List.set_cons_zero, List.set_cons_succ])
            obtain ⟨k0, k1, k2, z0, z1, z2, hlt⟩ := FBox.facts (HX1_27.out)
            obtain ⟨X28, hX28⟩ : ∃ X, X = (((X27).setCell ⟨B20, 0, none⟩ (.bool (frS q))).setCell ⟨B20, 1, none⟩ (.slice A26a l26a.length c26a)).setCell ⟨B20, 2, none⟩ (.slice A26b l26b.length c26b) := ⟨_, rfl⟩
            have HV1_28 := Lib.hid (show VarQ X28 B20 q by rw [hX28]; exact varq_set (HX1_27.out) (by simp) (HN1_27.out) (HM1_27.out))
            have HB28 := Lib.hid (show Below W0.heap.size W0 X28 by rw [hX28]; exact (((HB27.out).setCell (p := ⟨B20, 0, none⟩) (HW1_20.out) _).setCell (p := ⟨B20, 1, none⟩) (HW1_20.out) _).setCell (p := ⟨B20, 2, none⟩) (HW1_20.out) _)
            have HV0_28 := Lib.hid (show VarQ X28 B25 p by rw [hX28]; exact varq_far (HV0_27.out) (HX1_27.out) (by simp) (fun e => HD25.out e.symm))
            refine run_one (i := 9) (by kernel_rfl) rfl rfl ?_
            intro K hK
            go_simp
            rw [← hX28]
            refine hK.out _ _ (HKS.out _ HB28.out) ?_
            clear hK K k0 k1 k2 z0 z1 z2 hlt hX28
            intro _
            (try simp only [List.getElem_toArray, List.getElem_cons_succ, List.getElem_cons_zero, Act.put, List.setIfInBounds_toArray, List.set_cons_zero, List.set_cons_succ])
            refine wpAnyH_done (by kernel_rfl) ?_ _
            refine NoPanic.normal ?_
            go_wp2_with fail
            go_meet
            exact ⟨B25, B20, rfl, rfl, HV0_28.out, HV1_28.out, HB28.out⟩
          exact AllReadyH.nil
        exact AllReadyH.nil
      exact AllReadyH.nil
    refine AllReadyH.cons rfl (fun K hK => ?_) ?_
    · obtain ⟨X29, hX29⟩ : ∃ X, X = (X0).alloc (.cells #[.bool false, .slice none 0 0, .slice none 0 0] 33) := ⟨_, rfl⟩
      have hb29 : Below (X0).heap.size (X0) X29 := by rw [hX29]; exact (Below.refl _ _).alloc (Nat.le_refl _) _
      have HX0_29 := Lib.hid (show FBox X29 (X0).heap.size by rw [hX29]; exact alloc_at _ _ _ rfl)
      obtain ⟨B29, hB29⟩ : ∃ B, B = (X0).heap.size := ⟨_, rfl⟩
      go_simp
      (try rw [← hX29])
      refine hK.out _ _ (HKS.out _ (below_next (HB0.out) hb29)) ?_
      clear hK K
      intro _
      have HB29 := Lib.hid (below_next (HB0.out) hb29)
      have HW0_29 := Lib.hid (show W0.heap.size ≤ B29 by rw [hB29]; exact (HB0.out).size)
      rw [← hB29] at HX0_29
      (try rw [show (X0).heap.size = B29 from hB29.symm])
      clear hX29 hb29 hB29
      (try simp only [List.getElem_toArray, List.getElem_cons_succ, List.getElem_cons_zero, Act.put, List.setIfInBounds_toArray, List.set_cons_zero, List.set_cons_succ])
      refine wpAnyH_ready (rs := [2, 7]) (by kernel_rfl) (by simp) ?_
      refine AllReadyH.cons rfl (fun K hK => ?_) ?_
      · go_simp
        (with_reducible refine (HF1.out _).mono ?_)
        rintro e X30 ⟨_, rfl, ⟨A30a, c30a, l30a, A30b, c30b, l30b, rfl, hm30, hn30⟩, hb30⟩
        refine hK.out _ _ (HKS.out _ (below_next (HB29.out) hb30)) ?_
        clear hK K
        intro _
        have HB30 := Lib.hid (below_next (HB29.out) hb30)
        have HX0_30 := Lib.hid (FBox.on HX0_29.out hb30)
        have HN0_30 := Lib.hid hm30
        have HM0_30 := Lib.hid hn30
        clear hm30 hn30 hb30
        (try simp only [List.getElem_toArray, List.getElem_cons_succ, List.getElem_cons_zero, Act.put, List.setIfInBounds_toArray, List.set_cons_zero, List.set_cons_succ])
        refine wpAnyH_ready (rs := [5, 7]) (by kernel_rfl) (by simp) ?_
        refine AllReadyH.cons rfl (fun K hK => ?_) ?_
        · go_simp
          (with_reducible refine (HF2.out _).mono ?_)
          rintro e X31 ⟨_, rfl, ⟨A31a, c31a, l31a, A31b, c31b, l31b, rfl, hm31, hn31⟩, hb31⟩
          refine hK.out _ _ (HKS.out _ (below_next (HB30.out) hb31)) ?_
          clear hK K
          intro _
          have HB31 := Lib.hid (below_next (HB30.out) hb31)
          have HN0_31 := Lib.hid (HN0_30.out.on hb31)
          have HM0_31 := Lib.hid (HM0_30.out.on hb31)
          have HX0_31 := Lib.hid (FBox.on HX0_30.out hb31)
          have HN1_31 := Lib.hid hm31
          have HM1_31 := Lib.hid hn31
          clear hm31 hn31 hb31
          (try simp only [List.getElem_toArray, List.getElem_cons_succ, List.getElem_cons_zero, Act.put, List.setIfInBounds_toArray, List.set_cons_zero, List.set_cons_succ])
          refine wpAnyH_ready (rs := [7]) (by kernel_rfl) (by simp) ?_
          refine AllReadyH.cons rfl (fun K hK => ?_) ?_
          · obtain ⟨X32, hX32⟩ : ∃ X, X = (X31).alloc (.cells #[.bool false, .slice none 0 0, .slice none 0 0] 33) := ⟨_, rfl⟩
            have hb32 : Below (X31).heap.size (X31) X32 := by rw [hX32]; exact (Below.refl _ _).alloc (Nat.le_refl _) _
            have HX1_32 := Lib.hid (show FBox X32 (X31).heap.size by rw [hX32]; exact alloc_at _ _ _ rfl)
            obtain ⟨B32, hB32⟩ : ∃ B, B = (X31).heap.size := ⟨_, rfl⟩
            go_simp
            (try rw [← hX32])
            refine hK.out _ _ (HKS.out _ (below_next (HB31.out) hb32)) ?_
            clear hK K
            intro _
            have HB32 := Lib.hid (below_next (HB31.out) hb32)
            have HN0_32 := Lib.hid (HN0_31.out.on hb32)
            have HM0_32 := Lib.hid (HM0_31.out.on hb32)
            have HN1_32 := Lib.hid (HN1_31.out.on hb32)
            have HM1_32 := Lib.hid (HM1_31.out.on hb32)
            have HX0_32 := Lib.hid (FBox.on HX0_31.out hb32)
            have HW1_32 := Lib.hid (show W0.heap.size ≤ B32 by rw [hB32]; exact (HB31.out).size)
            have HD32 := Lib.hid (show B29 ≠ B32 by rw [hB32]; exact Nat.ne_of_lt (heap_lt (HX0_31.out)))
            rw [← hB32] at HX1_32
            (try rw [show (X31).heap.size = B32 from hB32.symm])
            clear hX32 hb32 hB32
            (try simp only [List.getElem_toArray, List.getElem_cons_succ, List.getElem_cons_zero, Act.put, List.setIfInBounds_toArray, List.set_cons_zero, List.set_cons_succ])
            obtain ⟨k0, k1, k2, z0, z1, z2, hlt⟩ := FBox.facts (HX0_32.out)
            obtain ⟨X33, hX33⟩ : ∃ X, X = (((X32).setCell ⟨B29, 0, none⟩ (.bool (frS p))).setCell ⟨B29, 1, none⟩ (.slice A30a l30a.length c30a)).setCell ⟨B29, 2, none⟩ (.slice A30b l30b.length c30b) := ⟨_, rfl⟩
            have HV0_33 := Lib.hid (show VarQ X33 B29 p by rw [hX33]; exact varq_set (HX0_32.out) (by simp) (HN0_32.out) (HM0_32.out))
            have HB33 := Lib.hid (show Below W0.heap.size W0 X33 by rw [hX33]; exact (((HB32.out).setCell (p := ⟨B29, 0, none⟩) (HW0_29.out) _).setCell (p := ⟨B29, 1, none⟩) (HW0_29.out) _).setCell (p := ⟨B29, 2, none⟩) (HW0_29.out) _)
            have HN1_33 := Lib.hid (show RNatR X33 A31a c31a l31a (frN q) by rw [hX33]; exact rnatr_set3 (HN1_32.out) (HX0_32.out) (by simp))
            have HM1_33 := Lib.hid (show RNatR X33 A31b c31b l31b (q).den by rw [hX33]; exact rnatr_set3 (HM1_32.out) (HX0_32.out) (by simp))
            have HX1_33 := Lib.hid (show FBox X33 B32 by rw [hX33]; exact fbox_far (HX1_32.out) (fun e => HD32.out e.symm) _ _ _)
            refine run_one (i := 8) (by kernel_rfl) rfl rfl ?_
            intro K hK
            go_simp
            rw [← hX33]
            refine hK.out _ _ (HKS.out _ HB33.out) ?_
            clear hK K k0 k1 k2 z0 z1 z2 hlt hX33
            intro _
            (try simp only [List.getElem_toArray, List.getElem_cons_succ, List.getElem_cons_zero, Act.put, List.setIfInBounds_toArray, List.set_cons_zero, List.set_cons_succ])
            obtain ⟨k0, k1, k2, z0, z1, z2, hlt⟩ := FBox.facts (HX1_33.out)
            obtain ⟨X34, hX34⟩ : ∃ X, X = (((X33).setCell ⟨B32, 0, none⟩ (.bool (frS q))).setCell ⟨B32, 1, none⟩ (.slice A31a l31a.length c31a)).setCell ⟨B32, 2, none⟩ (.slice A31b l31b.length c31b) := ⟨_, rfl⟩
            have HV1_34 := Lib.hid (show VarQ X34 B32 q by rw [hX34]; exact varq_set (HX1_33.out) (by simp) (HN1_33.out) (HM1_33.out))
            have HB34 := Lib.hid (show Below W0.heap.size W0 X34 by rw [hX34]; exact (((HB33.out).setCell (p := ⟨B32, 0, none⟩) (HW1_32.out) _).setCell (p := ⟨B32, 1, none⟩) (HW1_32.out) _).setCell (p := ⟨B32, 2, none⟩) (HW1_32.out) _)
            have HV0_34 := Lib.hid (show VarQ X34 B29 p by rw [hX34]; exact varq_far (HV0_33.out) (HX1_33.out) (by simp) HD32.out)
            refine run_one (i := 9) (by kernel_rfl) rfl rfl ?_
            intro K hK
            go_simp
            rw [← hX34]
            refine hK.out _ _ (HKS.out _ HB34.out) ?_
            clear hK K k0 k1 k2 z0 z1 z2 hlt hX34
            intro _
            (try simp only [List.getElem_toArray, List.getElem_cons_succ, List.getElem_cons_zero, Act.put, List.setIfInBounds_toArray, List.set_cons_zero, List.set_cons_succ])
            refine wpAnyH_done (by kernel_rfl) ?_ _
            refine NoPanic.normal ?_
            go_wp2_with fail
            go_meet
            exact ⟨B29, B32, rfl, rfl, HV0_34.out, HV1_34.out, HB34.out⟩
          exact AllReadyH.nil
        refine AllReadyH.cons rfl (fun K hK => ?_) ?_
        · obtain ⟨X35, hX35⟩ : ∃ X, X = (X30).alloc (.cells #[.bool false, .slice none 0 0, .slice none 0 0] 33) := ⟨_, rfl⟩
          have hb35 : Below (X30).heap.size (X30) X35 := by rw [hX35]; exact (Below.refl _ _).alloc (Nat.le_refl _) _
          have HX1_35 := Lib.hid (show FBox X35 (X30).heap.size by rw [hX35]; exact alloc_at _ _ _ rfl)
          obtain ⟨B35, hB35⟩ : ∃ B, B = (X30).heap.size := ⟨_, rfl⟩
          go_simp
          (try rw [← hX35])
          refine hK.out _ _ (HKS.out _ (below_next (HB30.out) hb35)) ?_
          clear hK K
          intro _
          have HB35 := Lib.hid (below_next (HB30.out) hb35)
          have HN0_35 := Lib.hid (HN0_30.out.on hb35)
          have HM0_35 := Lib.hid (HM0_30.out.on hb35)
          have HX0_35 := Lib.hid (FBox.on HX0_30.out hb35)
          have HW1_35 := Lib.hid (show W0.heap.size ≤ B35 by rw [hB35]; exact (HB30.out).size)
          have HD35 := Lib.hid (show B29 ≠ B35 by rw [hB35]; exact Nat.ne_of_lt (heap_lt (HX0_30.out)))
          rw [← hB35] at HX1_35
          (try rw [show (X30).heap.size = B35 from hB35.symm])
          clear hX35 hb35 hB35
          (try simp only [List.getElem_toArray, List.getElem_cons_succ, List.getElem_cons_zero, Act.put, List.setIfInBounds_toArray, List.set_cons_zero, List.set_cons_succ])
          refine wpAnyH_ready (rs := [5]) (by kernel_rfl) (by simp) ?_
          refine AllReadyH.cons rfl (fun K hK => ?_) ?_
          · go_simp
            (with_reducible refine (HF2.out _).mono ?_)
            rintro e X36 ⟨_, rfl, ⟨A36a, c36a, l36a, A36b, c36b, l36b, rfl, hm36, hn36⟩, hb36⟩
            refine hK.out _ _ (HKS.out _ (below_next (HB35.out) hb36)) ?_
            clear hK K
            intro _
            have HB36 := Lib.hid (below_next (HB35.out) hb36)
            have HN0_36 := Lib.hid (HN0_35.out.on hb36)
            have HM0_36 := Lib.hid (HM0_35.out.on hb36)
            have HX0_36 := Lib.hid (FBox.on HX0_35.out hb36)
            have HX1_36 := Lib.hid (FBox.on HX1_35.out hb36)
            have HN1_36 := Lib.hid hm36
            have HM1_36 := Lib.hid hn36
            clear hm36 hn36 hb36
            (try simp only [List.getElem_toArray, List.getElem_cons_succ, List.getElem_cons_zero, Act.put, List.setIfInBounds_toArray, List.set_cons_zero, List.set_cons_succ])
            obtain ⟨k0, k1, k2, z0, z1, z2, hlt⟩ := FBox.facts (HX0_36.out)
            obtain ⟨X37, hX37⟩ : ∃ X, X = (((X36).setCell ⟨B29, 0, none⟩ (.bool (frS p))).setCell ⟨B29, 1, none⟩ (.slice A30a l30a.length c30a)).setCell ⟨B29, 2, none⟩ (.slice A30b l30b.length c30b) := ⟨_, rfl⟩
            have HV0_37 := Lib.hid (show VarQ X37 B29 p by rw [hX37]; exact varq_set (HX0_36.out) (by simp) (HN0_36.out) (HM0_36.out))
            have HB37 := Lib.hid (show Below W0.heap.size W0 X37 by rw [hX37]; exact (((HB36.out).setCell (p := ⟨B29, 0, none⟩) (HW0_29.out) _).setCell (p := ⟨B29, 1, none⟩) (HW0_29.out) _).setCell (p := ⟨B29, 2, none⟩) (HW0_29.out) _)
            have HN1_37 := Lib.hid (show RNatR X37 A36a c36a l36a (frN q) by rw [hX37]; exact rnatr_set3 (HN1_36.out) (HX0_36.out) (by simp))
            have HM1_37 := Lib.hid (show RNatR X37 A36b c36b l36b (q).den by rw [hX37]; exact rnatr_set3 (HM1_36.out) (HX0_36.out) (by simp))
            have HX1_37 := Lib.hid (show FBox X37 B35 by rw [hX37]; exact fbox_far (HX1_36.out) (fun e => HD35.out e.symm) _ _ _)
            refine run_one (i := 8) (by kernel_rfl) rfl rfl ?_
            intro K hK
            go_simp
            rw [← hX37]
            refine hK.out _ _ (HKS.out _ HB37.out) ?_
            clear hK K k0 k1 k2 z0 z1 z2 hlt hX37
            intro _
            (try simp only [List.getElem_toArray, List.getElem_cons_succ, List.getElem_cons_zero, Act.put, List.setIfInBounds_toArray, List.set_cons_zero, List.set_cons_succ])
            obtain ⟨k0, k1, k2, z0, z1, z2, hlt⟩ := FBox.facts (HX1_37.out)
            obtain ⟨X38, hX38⟩ : ∃ X, X = (((X37).setCell ⟨B35, 0, none⟩ (.bool (frS q))).setCell ⟨B35, 1, none⟩ (.slice A36a l36a.length c36a)).setCell ⟨B35, 2, none⟩ (.slice A36b l36b.length c36b) := ⟨_, rfl⟩
            have HV1_38 := Lib.hid (show VarQ X38 B35 q by rw [hX38]; exact varq_set (HX1_37.out) (by simp) (HN1_37.out) (HM1_37.out))
            have HB38 := Lib.hid (show Below W0.heap.size W0 X38 by rw [hX38]; exact (((HB37.out).setCell (p := ⟨B35, 0, none⟩) (HW1_35.out) _).setCell (p := ⟨B35, 1, none⟩) (HW1_35.out) _).setCell (p := ⟨B35, 2, none⟩) (HW1_35.out) _)
            have HV0_38 := Lib.hid (show VarQ X38 B29 p by rw [hX38]; exact varq_far (HV0_37.out) (HX1_37.out) (by simp) HD35.out)
            refine run_one (i := 9) (by kernel_rfl) rfl rfl ?_
            intro K hK
            go_simp
            rw [← hX38]
            refine hK.out _ _ (HKS.out _ HB38.out) ?_
            clear hK K k0 k1 k2 z0 z1 z2 hlt hX38
            intro _
            (try simp only [List.getElem_toArray, List.getElem_cons_succ, List.getElem_cons_zero, Act.put, List.setIfInBounds_toArray, List.set_cons_zero, List.set_cons_succ])
            refine wpAnyH_done (by kernel_rfl) ?_ _
            refine NoPanic.normal ?_
            go_wp2_with fail
            go_meet
            exact ⟨B29, B35, rfl, rfl, HV0_38.out, HV1_38.out, HB38.out⟩
          exact AllReadyH.nil
        exact AllReadyH.nil
      refine AllReadyH.cons rfl (fun K hK => ?_) ?_
      · obtain ⟨X39, hX39⟩ : ∃ X, X = (X29).alloc (.cells #[.bool false, .slice none 0 0, .slice none 0 0] 33) := ⟨_, rfl⟩
        have hb39 : Below (X29).heap.size (X29) X39 := by rw [hX39]; exact (Below.refl _ _).alloc (Nat.le_refl _) _
        have HX1_39 := Lib.hid (show FBox X39 (X29).heap.size by rw [hX39]; exact alloc_at _ _ _ rfl)
        obtain ⟨B39, hB39⟩ : ∃ B, B = (X29).heap.size := ⟨_, rfl⟩
        go_simp
        (try rw [← hX39])
        refine hK.out _ _ (HKS.out _ (below_next (HB29.out) hb39)) ?_
        clear hK K
        intro _
        have HB39 := Lib.hid (below_next (HB29.out) hb39)
        have HX0_39 := Lib.hid (FBox.on HX0_29.out hb39)
        have HW1_39 := Lib.hid (show W0.heap.size ≤ B39 by rw [hB39]; exact (HB29.out).size)
        have HD39 := Lib.hid (show B29 ≠ B39 by rw [hB39]; exact Nat.ne_of_lt (heap_lt (HX0_29.out)))
        rw [← hB39] at HX1_39
        (try rw [show (X29).heap.size = B39 from hB39.symm])
        clear hX39 hb39 hB39
        (try simp only [List.getElem_toArray, List.getElem_cons_succ, List.getElem_cons_zero, Act.put, List.setIfInBounds_toArray, List.set_cons_zero, List.set_cons_succ])
        refine wpAnyH_ready (rs := [2]) (by kernel_rfl) (by simp) ?_
        refine AllReadyH.cons rfl (fun K hK => ?_) ?_
        · go_simp
          (with_reducible refine (HF1.out _).mono ?_)
          rintro e X40 ⟨_, rfl, ⟨A40a, c40a, l40a, A40b, c40b, l40b, rfl, hm40, hn40⟩, hb40⟩
          refine hK.out _ _ (HKS.out _ (below_next (HB39.out) hb40)) ?_
          clear hK K
          intro _
          have HB40 := Lib.hid (below_next (HB39.out) hb40)
          have HX0_40 := Lib.hid (FBox.on HX0_39.out hb40)
          have HX1_40 := Lib.hid (FBox.on HX1_39.out hb40)
          have HN0_40 := Lib.hid hm40
          have HM0_40 := Lib.hid hn40
          clear hm40 hn40 hb40
          (try simp only [List.getElem_toArray, List.getElem_cons_succ, List.getElem_cons_zero, Act.put, List.setIfInBounds_toArray, List.set_cons_zero, List.set_cons_succ])
          refine wpAnyH_ready (rs := [5]) (by kernel_rfl) (by simp) ?_
          refine AllReadyH.cons rfl (fun K hK => ?_) ?_
          · go_simp
            (with_reducible refine (HF2.out _).mono ?_)
            rintro e X41 ⟨_, rfl, ⟨A41a, c41a, l41a, A41b, c41b, l41b, rfl, hm41, hn41⟩, hb41⟩
            refine hK.out _ _ (HKS.out _ (below_next (HB40.out) hb41)) ?_
            clear hK K
            intro _
            have HB41 := Lib.hid (below_next (HB40.out) hb41)
            have HN0_41 := Lib.hid (HN0_40.out.on hb41)
            have HM0_41 := Lib.hid (HM0_40.out.on hb41)
            have HX0_41 := Lib.hid (FBox.on HX0_40.out hb41)
            have HX1_41 := Lib.hid (FBox.on HX1_40.out hb41)
            have HN1_41 := Lib.hid hm41
            have HM1_41 := Lib.hid hn41
            clear hm41 hn41 hb41
            (try simp only [List.getElem_toArray, List.getElem_cons_succ, List.getElem_cons_zero, Act.put, List.setIfInBounds_toArray, List.set_cons_zero, List.set_cons_succ])
            obtain ⟨k0, k1, k2, z0, z1, z2, hlt⟩ := FBox.facts (HX0_41.out)
            obtain ⟨X42, hX42⟩ : ∃ X, X = (((X41).setCell ⟨B29, 0, none⟩ (.bool (frS p))).setCell ⟨B29, 1, none⟩ (.slice A40a l40a.length c40a)).setCell ⟨B29, 2, none⟩ (.slice A40b l40b.length c40b) := ⟨_, rfl⟩
            have HV0_42 := Lib.hid (show VarQ X42 B29 p by rw [hX42]; exact varq_set (HX0_41.out) (by simp) (HN0_41.out) (HM0_41.out))
            have HB42 := Lib.hid (show Below W0.heap.size W0 X42 by rw [hX42]; exact (((HB41.out).setCell (p := ⟨B29, 0, none⟩) (HW0_29.out) _).setCell (p := ⟨B29, 1, none⟩) (HW0_29.out) _).setCell (p := ⟨B29, 2, none⟩) (HW0_29.out) _)
            have HN1_42 := Lib.hid (show RNatR X42 A41a c41a l41a (frN q) by rw [hX42]; exact rnatr_set3 (HN1_41.out) (HX0_41.out) (by simp))
            have HM1_42 := Lib.hid (show RNatR X42 A41b c41b l41b (q).den by rw [hX42]; exact rnatr_set3 (HM1_41.out) (HX0_41.out) (by simp))
            have HX1_42 := Lib.hid (show FBox X42 B39 by rw [hX42]; exact fbox_far (HX1_41.out) (fun e => HD39.out e.symm) _ _ _)
            refine run_one (i := 8) (by kernel_rfl) rfl rfl ?_
            intro K hK
            go_simp
            rw [← hX42]
            refine hK.out _ _ (HKS.out _ HB42.out) ?_
            clear hK K k0 k1 k2 z0 z1 z2 hlt hX42
            intro _
            (try simp only [List.getElem_toArray, List.getElem_cons_succ, List.getElem_cons_zero, Act.put, List.setIfInBounds_toArray, List.set_cons_zero, List.set_cons_succ])
            obtain ⟨k0, k1, k2, z0, z1, z2, hlt⟩ := FBox.facts (HX1_42.out)
            obtain ⟨X43, hX43⟩ : ∃ X, X = (((X42).setCell ⟨B39, 0, none⟩ (.bool (frS q))).setCell ⟨B39, 1, none⟩ (.slice A41a l41a.length c41a)).setCell ⟨B39, 2, none⟩ (.slice A41b l41b.length c41b) := ⟨_, rfl⟩
            have HV1_43 := Lib.hid (show VarQ X43 B39 q by rw [hX43]; exact varq_set (HX1_42.out) (by simp) (HN1_42.out) (HM1_42.out))
            have HB43 := Lib.hid (show Below W0.heap.size W0 X43 by rw [hX43]; exact (((HB42.out).setCell (p := ⟨B39, 0, none⟩) (HW1_39.out) _).setCell (p := ⟨B39, 1, none⟩) (HW1_39.out) _).setCell (p := ⟨B39, 2, none⟩) (HW1_39.out) _)
            have HV0_43 := Lib.hid (show VarQ X43 B29 p by rw [hX43]; exact varq_far (HV0_42.out) (HX1_42.out) (by simp) HD39.out)
            refine run_one (i := 9) (by kernel_rfl) rfl rfl ?_
            intro K hK
            go_simp
            rw [← hX43]
            refine hK.out _ _ (HKS.out _ HB43.out) ?_
            clear hK K k0 k1 k2 z0 z1 z2 hlt hX43
            intro _
            (try simp only [List.getElem_toArray, List.getElem_cons_succ, List.getElem_cons_zero, Act.put, List.setIfInBounds_toArray, List.set_cons_zero, List.set_cons_succ])
            refine wpAnyH_done (by kernel_rfl) ?_ _
            refine NoPanic.normal ?_
            go_wp2_with fail
            go_meet
            exact ⟨B29, B39, rfl, rfl, HV0_43.out, HV1_43.out, HB43.out⟩
          exact AllReadyH.nil
        exact AllReadyH.nil
      exact AllReadyH.nil
    refine AllReadyH.cons rfl (fun K hK => ?_) ?_
    · obtain ⟨X44, hX44⟩ : ∃ X, X = (X0).alloc (.cells #[.bool false, .slice none 0 0, .slice none 0 0] 33) := ⟨_, rfl⟩
      have hb44 : Below (X0).heap.size (X0) X44 := by rw [hX44]; exact (Below.refl _ _).alloc (Nat.le_refl _) _
      have HX1_44 := Lib.hid (show FBox X44 (X0).heap.size by rw [hX44]; exact alloc_at _ _ _ rfl)
      obtain ⟨B44, hB44⟩ : ∃ B, B = (X0).heap.size := ⟨_, rfl⟩
      go_simp
      (try rw [← hX44])
      refine hK.out _ _ (HKS.out _ (below_next (HB0.out) hb44)) ?_
      clear hK K
      intro _
      have HB44 := Lib.hid (below_next (HB0.out) hb44)
      have HW1_44 := Lib.hid (show W0.heap.size ≤ B44 by rw [hB44]; exact (HB0.out).size)
      rw [← hB44] at HX1_44
      (try rw [show (X0).heap.size = B44 from hB44.symm])
      clear hX44 hb44 hB44
      (try simp only [List.getElem_toArray, List.getElem_cons_succ, List.getElem_cons_zero, Act.put, List.setIfInBounds_toArray, List.set_cons_zero, List.set_cons_succ])
      refine wpAnyH_ready (rs := [2, 6]) (by kernel_rfl) (by simp) ?_
      refine AllReadyH.cons rfl (fun K hK => ?_) ?_
      · go_simp
        (with_reducible refine (HF1.out _).mono ?_)
        rintro e X45 ⟨_, rfl, ⟨A45a, c45a, l45a, A45b, c45b, l45b, rfl, hm45, hn45⟩, hb45⟩
        refine hK.out _ _ (HKS.out _ (below_next (HB44.out) hb45)) ?_
        clear hK K
        intro _
        have HB45 := Lib.hid (below_next (HB44.out) hb45)
        have HX1_45 := Lib.hid (FBox.on HX1_44.out hb45)
        have HN0_45 := Lib.hid hm45
        have HM0_45 := Lib.hid hn45
        clear hm45 hn45 hb45
        (try simp only [List.getElem_toArray, List.getElem_cons_succ, List.getElem_cons_zero, Act.put, List.setIfInBounds_toArray, List.set_cons_zero, List.set_cons_succ])
        refine wpAnyH_ready (rs := [5, 6]) (by kernel_rfl) (by simp) ?_
        refine AllReadyH.cons rfl (fun K hK => ?_) ?_
        · go_simp
          (with_reducible refine (HF2.out _).mono ?_)
          rintro e X46 ⟨_, rfl, ⟨A46a, c46a, l46a, A46b, c46b, l46b, rfl, hm46, hn46⟩, hb46⟩
          refine hK.out _ _ (HKS.out _ (below_next (HB45.out) hb46)) ?_
          clear hK K
          intro _
          have HB46 := Lib.hid (below_next (HB45.out) hb46)
          have HN0_46 := Lib.hid (HN0_45.out.on hb46)
          have HM0_46 := Lib.hid (HM0_45.out.on hb46)
          have HX1_46 := Lib.hid (FBox.on HX1_45.out hb46)
          have HN1_46 := Lib.hid hm46
          have HM1_46 := Lib.hid hn46
          clear hm46 hn46 hb46
          (try simp only [List.getElem_toArray, List.getElem_cons_succ, List.getElem_cons_zero, Act.put, List.setIfInBounds_toArray, List.set_cons_zero, List.set_cons_succ])
          refine wpAnyH_ready (rs := [6]) (by kernel_rfl) (by simp) ?_
          refine AllReadyH.cons rfl (fun K hK => ?_) ?_
          · obtain ⟨X47, hX47⟩ : ∃ X, X = (X46).alloc (.cells #[.bool false, .slice none 0 0, .slice none 0 0] 33) := ⟨_, rfl⟩
            have hb47 : Below (X46).heap.size (X46) X47 := by rw [hX47]; exact (Below.refl _ _).alloc (Nat.le_refl _) _
            have HX0_47 := Lib.hid (show FBox X47 (X46).heap.size by rw [hX47]; exact alloc_at _ _ _ rfl)
            obtain ⟨B47, hB47⟩ : ∃ B, B = (X46).heap.size := ⟨_, rfl⟩
            go_simp
            (try rw [← hX47])
            refine hK.out _ _ (HKS.out _ (below_next (HB46.out) hb47)) ?_
            clear hK K
            intro _
            have HB47 := Lib.hid (below_next (HB46.out) hb47)
            have HN0_47 := Lib.hid (HN0_46.out.on hb47)
            have HM0_47 := Lib.hid (HM0_46.out.on hb47)
            have HN1_47 := Lib.hid (HN1_46.out.on hb47)
            have HM1_47 := Lib.hid (HM1_46.out.on hb47)
            have HX1_47 := Lib.hid (FBox.on HX1_46.out hb47)
            have HW0_47 := Lib.hid (show W0.heap.size ≤ B47 by rw [hB47]; exact (HB46.out).size)
            have HD47 := Lib.hid (show B44 ≠ B47 by rw [hB47]; exact Nat.ne_of_lt (heap_lt (HX1_46.out)))
            rw [← hB47] at HX0_47
            (try rw [show (X46).heap.size = B47 from hB47.symm])
            clear hX47 hb47 hB47
            (try simp only [List.getElem_toArray, List.getElem_cons_succ, List.getElem_cons_zero, Act.put, List.setIfInBounds_toArray, List.set_cons_zero, List.set_cons_succ])
            obtain ⟨k0, k1, k2, z0, z1, z2, hlt⟩ := FBox.facts (HX0_47.out)
            obtain ⟨X48, hX48⟩ : ∃ X, X = (((X47).setCell ⟨B47, 0, none⟩ (.bool (frS p))).setCell ⟨B47, 1, none⟩ (.slice A45a l45a.length c45a)).setCell ⟨B47, 2, none⟩ (.slice A45b l45b.length c45b) := ⟨_, rfl⟩
            have HV0_48 := Lib.hid (show VarQ X48 B47 p by rw [hX48]; exact varq_set (HX0_47.out) (by simp) (HN0_47.out) (HM0_47.out))
            have HB48 := Lib.hid (show Below W0.heap.size W0 X48 by rw [hX48]; exact (((HB47.out).setCell (p := ⟨B47, 0, none⟩) (HW0_47.out) _).setCell (p := ⟨B47, 1, none⟩) (HW0_47.out) _).setCell (p := ⟨B47, 2, none⟩) (HW0_47.out) _)
            have HN1_48 := Lib.hid (show RNatR X48 A46a c46a l46a (frN q) by rw [hX48]; exact rnatr_set3 (HN1_47.out) (HX0_47.out) (by simp))
            have HM1_48 := Lib.hid (show RNatR X48 A46b c46b l46b (q).den by rw [hX48]; exact rnatr_set3 (HM1_47.out) (HX0_47.out) (by simp))
            have HX1_48 := Lib.hid (show FBox X48 B44 by rw [hX48]; exact fbox_far (HX1_47.out) HD47.out _ _ _)
            refine run_one (i := 8) (by kernel_rfl) rfl rfl ?_
            intro K hK
            go_simp
            rw [← hX48]
            refine hK.out _ _ (HKS.out _ HB48.out) ?_
            clear hK K k0 k1 k2 z0 z1 z2 hlt hX48
            intro _
            (try simp only [List.getElem_toArray, List.getElem_cons_succ, List.getElem_cons_zero, Act.put, List.setIfInBounds_toArray, List.set_cons_zero, List.set_cons_succ])
            obtain ⟨k0, k1, k2, z0, z1, z2, hlt⟩ := FBox.facts (HX1_48.out)
            obtain ⟨X49, hX49⟩ : ∃ X, X = (((X48).setCell ⟨B44, 0, none⟩ (.bool (frS q))).setCell ⟨B44, 1, none⟩ (.slice A46a l46a.length c46a)).setCell ⟨B44, 2, none⟩ (.slice A46b l46b.length c46b) := ⟨_, rfl⟩
            have HV1_49 := Lib.hid (show VarQ X49 B44 q by rw [hX49]; exact varq_set (HX1_48.out) (by simp) (HN1_48.out) (HM1_48.out))
            have HB49 := Lib.hid (show Below W0.heap.size W0 X49 by rw [hX49]; exact (((HB48.out).setCell (p := ⟨B44, 0, none⟩) (HW1_44.out) _).setCell (p := ⟨B44, 1, none⟩) (HW1_44.out) _).setCell (p := ⟨B44, 2, none⟩) (HW1_44.out) _)
            have HV0_49 := Lib.hid (show VarQ X49 B47 p by rw [hX49]; exact varq_far (HV0_48.out) (HX1_48.out) (by simp) (fun e => HD47.out e.symm))
            refine run_one (i := 9) (by kernel_rfl) rfl rfl ?_
            intro K hK
            go_simp
            rw [← hX49]
            refine hK.out _ _ (HKS.out _ HB49.out) ?_
            clear hK K k0 k1 k2 z0 z1 z2 hlt hX49
            intro _
            (try simp only [List.getElem_toArray, List.getElem_cons_succ, List.getElem_cons_zero, Act.put, List.setIfInBounds_toArray, List.set_cons_zero, List.set_cons_succ])
            refine wpAnyH_done (by kernel_rfl) ?_ _
            refine NoPanic.normal ?_
            go_wp2_with fail
            go_meet
            exact ⟨B47, B44, rfl, rfl, HV0_49.out, HV1_49.out, HB49.out⟩
          exact AllReadyH.nil
        refine AllReadyH.cons rfl (fun K hK => ?_) ?_
        · obtain ⟨X50, hX50⟩ : ∃ X, X = (X45).alloc (.cells #[.bool false, .slice none 0 0, .slice none 0 0] 33) := ⟨_, rfl⟩
          have hb50 : Below (X45).heap.size (X45) X50 := by rw [hX50]; exact (Below.refl _ _).alloc (Nat.le_refl _) _
          have HX0_50 := Lib.hid (show FBox X50 (X45).heap.size by rw [hX50]; exact alloc_at _ _ _ rfl)
          obtain ⟨B50, hB50⟩ : ∃ B, B = (X45).heap.size := ⟨_, rfl⟩
          go_simp
          (try rw [← hX50])
          refine hK.out _ _ (HKS.out _ (below_next (HB45.out) hb50)) ?_
          clear hK K
          intro _
          have HB50 := Lib.hid (below_next (HB45.out) hb50)
          have HN0_50 := Lib.hid (HN0_45.out.on hb50)
          have HM0_50 := Lib.hid (HM0_45.out.on hb50)
          have HX1_50 := Lib.hid (FBox.on HX1_45.out hb50)
          have HW0_50 := Lib.hid (show W0.heap.size ≤ B50 by rw [hB50]; exact (HB45.out).size)
          have HD50 := Lib.hid (show B44 ≠ B50 by rw [hB50]; exact Nat.ne_of_lt (heap_lt (HX1_45.out)))
          rw [← hB50] at HX0_50
          (try rw [show (X45).heap.size = B50 from hB50.symm])
          clear hX50 hb50 hB50
          (try simp only [List.getElem_toArray, List.getElem_cons_succ, List.getElem_cons_zero, Act.put, List.setIfInBounds_toArray, List.set_cons_zero, List.set_cons_succ])
          refine wpAnyH_ready (rs := [5]) (by kernel_rfl) (by simp) ?_
          refine AllReadyH.cons rfl (fun K hK => ?_) ?_
          · go_simp
            (with_reducible refine (HF2.out _).mono ?_)
            rintro e X51 ⟨_, rfl, ⟨A51a, c51a, l51a, A51b, c51b, l51b, rfl, hm51, hn51⟩, hb51⟩
            refine hK.out _ _ (HKS.out _ (below_next (HB50.out) hb51)) ?_
            clear hK K
            intro _
            have HB51 := Lib.hid (below_next (HB50.out) hb51)
            have HN0_51 := Lib.hid (HN0_50.out.on hb51)
            have HM0_51 := Lib.hid (HM0_50.out.on hb51)
            have HX1_51 := Lib.hid (FBox.on HX1_50.out hb51)
            have HX0_51 := Lib.hid (FBox.on HX0_50.out hb51)
            have HN1_51 := Lib.hid hm51
            have HM1_51 := Lib.hid hn51
            clear hm51 hn51 hb51
            (try simp only [List.getElem_toArray, List.getElem_cons_succ, List.getElem_cons_zero, Act.put, List.setIfInBounds_toArray, List.set_cons_zero, List.set_cons_succ])
            obtain ⟨k0, k1, k2, z0, z1, z2, hlt⟩ := FBox.facts (HX0_51.out)
            obtain ⟨X52, hX52⟩ : ∃ X, X = (((X51).setCell ⟨B50, 0, none⟩ (.bool (frS p))).setCell ⟨B50, 1, none⟩ (.slice A45a l45a.length c45a)).setCell ⟨B50, 2, none⟩ (.slice A45b l45b.length c45b) := ⟨_, rfl⟩
            have HV0_52 := Lib.hid (show VarQ X52 B50 p by rw [hX52]; exact varq_set (HX0_51.out) (by simp) (HN0_51.out) (HM0_51.out))
            have HB52 := Lib.hid (show Below W0.heap.size W0 X52 by rw [hX52]; exact (((HB51.out).setCell (p := ⟨B50, 0, none⟩) (HW0_50.out) _).setCell (p := ⟨B50, 1, none⟩) (HW0_50.out) _).setCell (p := ⟨B50, 2, none⟩) (HW0_50.out) _)
            have HN1_52 := Lib.hid (show RNatR X52 A51a c51a l51a (frN q) by rw [hX52]; exact rnatr_set3 (HN1_51.out) (HX0_51.out) (by simp))
            have HM1_52 := Lib.hid (show RNatR X52 A51b c51b l51b (q).den by rw [hX52]; exact rnatr_set3 (HM1_51.out) (HX0_51.out) (by simp))
            have HX1_52 := Lib.hid (show FBox X52 B44 by rw [hX52]; exact fbox_far (HX1_51.out) HD50.out _ _ _)
            refine run_one (i := 8) (by kernel_rfl) rfl rfl ?_
            intro K hK
            go_simp
            rw [← hX52]
            refine hK.out _ _ (HKS.out _ HB52.out) ?_
            clear hK K k0 k1 k2 z0 z1 z2 hlt hX52
            intro _
            (try simp only [List.getElem_toArray, List.getElem_cons_succ, List.getElem_cons_zero, Act.put, List.setIfInBounds_toArray, List.set_cons_zero, List.set_cons_succ])
            obtain ⟨k0, k1, k2, z0, z1, z2, hlt⟩ := FBox.facts (HX1_52.out)
            obtain ⟨X53, hX53⟩ : ∃ X, X = (((X52).setCell ⟨B44, 0, none⟩ (.bool (frS q))).setCell ⟨B44, 1, none⟩ (.slice A51a l51a.length c51a)).setCell ⟨B44, 2, none⟩ (.slice A51b l51b.length c51b) := ⟨_, rfl⟩
            have HV1_53 := Lib.hid (show VarQ X53 B44 q by rw [hX53]; exact varq_set (HX1_52.out) (by simp) (HN1_52.out) (HM1_52.out))
            have HB53 := Lib.hid (show Below W0.heap.size W0 X53 by rw [hX53]; exact (((HB52.out).setCell (p := ⟨B44, 0, none⟩) (HW1_44.out) _).setCell (p := ⟨B44, 1, none⟩) (HW1_44.out) _).setCell (p := ⟨B44, 2, none⟩) (HW1_44.out) _)
            have HV0_53 := Lib.hid (show VarQ X53 B50 p by rw [hX53]; exact varq_far (HV0_52.out) (HX1_52.out) (by simp) (fun e => HD50.out e.symm))
            refine run_one (i := 9) (by kernel_rfl) rfl rfl ?_
            intro K hK
            go_simp
            rw [← hX53]
            refine hK.out _ _ (HKS.out _ HB53.out) ?_
            clear hK K k0 k1 k2 z0 z1 z2 hlt hX53
            intro _
            (try simp only [List.getElem_toArray, List.getElem_cons_succ, List.getElem_cons_zero, Act.put, List.setIfInBounds_toArray, List.set_cons_zero, List.set_cons_succ])
            refine wpAnyH_done (by kernel_rfl) ?_ _
            refine NoPanic.normal ?_
            go_wp2_with fail
            go_meet
            exact ⟨B50, B44, rfl, rfl, HV0_53.out, HV1_53.out, HB53.out⟩
          exact AllReadyH.nil
        exact AllReadyH.nil
      refine AllReadyH.cons rfl (fun K hK => ?_) ?_
      · obtain ⟨X54, hX54⟩ : ∃ X, X = (X44).alloc (.cells #[.bool false, .slice none 0 0, .slice none 0 0] 33) := ⟨_, rfl⟩
        have hb54 : Below (X44).heap.size (X44) X54 := by rw [hX54]; exact (Below.refl _ _).alloc (Nat.le_refl _) _
        have HX0_54 := Lib.hid (show FBox X54 (X44).heap.size by rw [hX54]; exact alloc_at _ _ _ rfl)
        obtain ⟨B54, hB54⟩ : ∃ B, B = (X44).heap.size := ⟨_, rfl⟩
        go_simp
        (try rw [← hX54])
        refine hK.out _ _ (HKS.out _ (below_next (HB44.out) hb54)) ?_
        clear hK K
        intro _
        have HB54 := Lib.hid (below_next (HB44.out) hb54)
        have HX1_54 := Lib.hid (FBox.on HX1_44.out hb54)
        have HW0_54 := Lib.hid (show W0.heap.size ≤ B54 by rw [hB54]; exact (HB44.out).size)
        have HD54 := Lib.hid (show B44 ≠ B54 by rw [hB54]; exact Nat.ne_of_lt (heap_lt (HX1_44.out)))
        rw [← hB54] at HX0_54
        (try rw [show (X44).heap.size = B54 from hB54.symm])
        clear hX54 hb54 hB54
        (try simp only [List.getElem_toArray, List.getElem_cons_succ, List.getElem_cons_zero, Act.put, List.setIfInBounds_toArray, List.set_cons_zero, List.set_cons_succ])
        refine wpAnyH_ready (rs := [2]) (by kernel_rfl) (by simp) ?_
        refine AllReadyH.cons rfl (fun K hK => ?_) ?_
        · go_simp
          (with_reducible refine (HF1.out _).mono ?_)
          rintro e X55 ⟨_, rfl, ⟨A55a, c55a, l55a, A55b, c55b, l55b, rfl, hm55, hn55⟩, hb55⟩
          refine hK.out _ _ (HKS.out _ (below_next (HB54.out) hb55)) ?_
          clear hK K
          intro _
          have HB55 := Lib.hid (below_next (HB54.out) hb55)
          have HX1_55 := Lib.hid (FBox.on HX1_54.out hb55)
          have HX0_55 := Lib.hid (FBox.on HX0_54.out hb55)
          have HN0_55 := Lib.hid hm55
          have HM0_55 := Lib.hid hn55
          clear hm55 hn55 hb55
          (try simp only [List.getElem_toArray, List.getElem_cons_succ, List.getElem_cons_zero, Act.put, List.setIfInBounds_toArray, List.set_cons_zero, List.set_cons_succ])
          refine wpAnyH_ready (rs := [5]) (by kernel_rfl) (by simp) ?_
          refine AllReadyH.cons rfl (fun K hK => ?_) ?_
          · go_simp
            (with_reducible refine (HF2.out _).mono ?_)
            rintro e X56 ⟨_, rfl, ⟨A56a, c56a, l56a, A56b, c56b, l56b, rfl, hm56, hn56⟩, hb56⟩
            refine hK.out _ _ (HKS.out _ (below_next (HB55.out) hb56)) ?_
            clear hK K
            intro _
            have HB56 := Lib.hid (below_next (HB55.out) hb56)
            have HN0_56 := Lib.hid (HN0_55.out.on hb56)
            have HM0_56 := Lib.hid (HM0_55.out.on hb56)
            have HX1_56 := Lib.hid (FBox.on HX1_55.out hb56)
            have HX0_56 := Lib.hid (FBox.on HX0_55.out hb56)
            have HN1_56 := Lib.hid hm56
            have HM1_56 := Lib.hid hn56
            clear hm56 hn56 hb56
            (try simp only [List.getElem_toArray, List.getElem_cons_succ, List.getElem_cons_zero, Act.put, List.setIfInBounds_toArray, List.set_cons_zero, List.set_cons_succ])
            obtain ⟨k0, k1, k2, z0, z1, z2, hlt⟩ := FBox.facts (HX0_56.out)
            obtain ⟨X57, hX57⟩ : ∃ X, X = (((X56).setCell ⟨B54, 0, none⟩ (.bool (frS p))).setCell ⟨B54, 1, none⟩ (.slice A55a l55a.length c55a)).setCell ⟨B54, 2, none⟩ (.slice A55b l55b.length c55b) := ⟨_, rfl⟩
            have HV0_57 := Lib.hid (show VarQ X57 B54 p by rw [hX57]; exact varq_set (HX0_56.out) (by simp) (HN0_56.out) (HM0_56.out))
            have HB57 := Lib.hid (show Below W0.heap.size W0 X57 by rw [hX57]; exact (((HB56.out).setCell (p := ⟨B54, 0, none⟩) (HW0_54.out) _).setCell (p := ⟨B54, 1, none⟩) (HW0_54.out) _).setCell (p := ⟨B54, 2, none⟩) (HW0_54.out) _)
            have HN1_57 := Lib.hid (show RNatR X57 A56a c56a l56a (frN q) by rw [hX57]; exact rnatr_set3 (HN1_56.out) (HX0_56.out) (by simp))
            have HM1_57 := Lib.hid (show RNatR X57 A56b c56b l56b (q).den by rw [hX57]; exact rnatr_set3 (HM1_56.out) (HX0_56.out) (by simp))
            have HX1_57 := Lib.hid (show FBox X57 B44 by rw [hX57]; exact fbox_far (HX1_56.out) HD54.out _ _ _)
            refine run_one (i := 8) (by kernel_rfl) rfl rfl ?_
            intro K hK
            go_simp
            rw [← hX57]
            refine hK.out _ _ (HKS.out _ HB57.out) ?_
            clear hK K k0 k1 k2 z0 z1 z2 hlt hX57
            intro _
            (try simp only [List.getElem_toArray, List.getElem_cons_succ, List.getElem_cons_zero, Act.put, List.setIfInBounds_toArray, List.set_cons_zero, List.set_cons_succ])
            obtain ⟨k0, k1, k2, z0, z1, z2, hlt⟩ := FBox.facts (HX1_57.out)
            obtain ⟨X58, hX58⟩ : ∃ X, X = (((X57).setCell ⟨B44, 0, none⟩ (.bool (frS q))).setCell ⟨B44, 1, none⟩ (.slice A56a l56a.length c56a)).setCell ⟨B44, 2, none⟩ (.slice A56b l56b.length c56b) := ⟨_, rfl⟩
            have HV1_58 := Lib.hid (show VarQ X58 B44 q by rw [hX58]; exact varq_set (HX1_57.out) (by simp) (HN1_57.out) (HM1_57.out))
            have HB58 := Lib.hid (show Below W0.heap.size W0 X58 by rw [hX58]; exact (((HB57.out).setCell (p := ⟨B44, 0, none⟩) (HW1_44.out) _).setCell (p := ⟨B44, 1, none⟩) (HW1_44.out) _).setCell (p := ⟨B44, 2, none⟩) (HW1_44.out) _)
            have HV0_58 := Lib.hid (show VarQ X58 B54 p by rw [hX58]; exact varq_far (HV0_57.out) (HX1_57.out) (by simp) (fun e => HD54.out e.symm))
            refine run_one (i := 9) (by kernel_rfl) rfl rfl ?_
            intro K hK
            go_simp
            rw [← hX58]
            refine hK.out _ _ (HKS.out _ HB58.out) ?_
            clear hK K k0 k1 k2 z0 z1 z2 hlt hX58
            intro _
            (try simp only [List.getElem_toArray, List.getElem_cons_succ, List.getElem_cons_zero, Act.put, List.setIfInBounds_toArray, List.set_cons_zero, List.set_cons_succ])
            refine wpAnyH_done (by kernel_rfl) ?_ _
            refine NoPanic.normal ?_
            go_wp2_with fail
            go_meet
            exact ⟨B54, B44, rfl, rfl, HV0_58.out, HV1_58.out, HB58.out⟩
          exact AllReadyH.nil
        exact AllReadyH.nil
      exact AllReadyH.nil
    exact AllReadyH.nil
  case rest =>
    obtain ⟨B1, B2, rfl, rfl, ⟨A1, c1, l1, A2, c2, l2, b1, n1, n2⟩, ⟨A3, c3, l3, A4, c4, l4, b3, n3, n4⟩, hbc⟩ := hcut
    have HB3 := Lib.hid (below_next HST0.out.below hbc)
    have HKB := Lib.hid (show ∀ X, Below wc.heap.size wc X → (fun X => Below wc.heap.size wc X ∧ X.cell? ⟨B1, 1, none⟩ = some (.slice A1 l1.length c1) ∧ X.cell? ⟨B1, 2, none⟩ = some (.slice A2 l2.length c2) ∧ X.cell? ⟨B2, 1, none⟩ = some (.slice A3 l3.length c3) ∧ X.cell? ⟨B2, 2, none⟩ = some (.slice A4 l4.length c4)) X from fun X hX => by
      have e := (hX.block _ (heap_lt b1)).trans b1
      have e' := (hX.block _ (heap_lt b3)).trans b3
      exact ⟨hX, by rw [cellsAt e]; rfl, by rw [cellsAt e]; rfl, by rw [cellsAt e']; rfl, by rw [cellsAt e']; rfl⟩)
    have hx := HX.out
    have hl1 := n1.len hx.1
    have hl2 := n2.len hx.2.1
    have hl3 := n3.len hx.2.2.1
    have hl4 := n4.len hx.2.2.2.1
    have HM1 := Lib.hid (fun W (hb : Below wc.heap.size wc W) => rnatMul_any A3 A2 c3 c2 l3 l2 _ _ W (n3.on hb) (n2.on hb) (by omega) (by omega))
    have HS1 := Lib.hid (fun W (hb : Below wc.heap.size wc W) => rnatSub_any A4 A3 c4 c3 l4 l3 _ _ W (n4.on hb) (n3.on hb) (by omega) (by have := HLT.out.2; omega))
    have HM2 := Lib.hid (fun W A c l (hb : Below wc.heap.size wc W) (h : RNatR W A c l (q.den - frN q)) => rnatMul_any A A2 c c2 l l2 _ _ W h (n2.on hb) (by have := h.len hx.2.2.2.2.2; omega) (by omega))
    have HP1 := Lib.hid (HPF.out (frN q * p.den) (T4_mul hx.2.2.1 hx.2.1))
    have HP2 := Lib.hid (HPG.out ((q.den - frN q) * p.den) (T4_mul hx.2.2.2.2.2 hx.2.1))
    have HP2w := Lib.hid (HPGw.out ((q.den - frN q) * p.den) (T4_mul hx.2.2.2.2.2 hx.2.1))
    have HM3a := Lib.hid (HM3.out _ _ (T4_pow (T4_mul hx.2.2.1 hx.2.1) (m := f) (by omega)) (T4_pow (T4_mul hx.2.2.2.2.2 hx.2.1) (m := n - f) (by omega)))
    have HM4 := Lib.hid (fun W (hb : Below wc.heap.size wc W) => rnatMul_any A1 A4 c1 c4 l1 l4 _ _ W (n1.on hb) (n4.on hb) (by omega) (by omega))
    have HS2 := Lib.hid (fun W (hb : Below wc.heap.size wc W) => rnatSub_any A2 A1 c2 c1 l2 l1 _ _ W (n2.on hb) (n1.on hb) (by omega) (by have := HLT.out.1; omega))
    have HM5 := Lib.hid (fun W A c l (hb : Below wc.heap.size wc W) (h : RNatR W A c l (p.den - frN p)) => rnatMul_any A A4 c c4 l l4 _ _ W h (n4.on hb) (by have := h.len hx.2.2.2.2.1; omega) (by omega))
    have HP3 := Lib.hid (HPF.out (frN p * q.den) (T4_mul hx.1 hx.2.2.2.1))
    have HP4 := Lib.hid (HPG.out ((p.den - frN p) * q.den) (T4_mul hx.2.2.2.2.1 hx.2.2.2.1))
    have HP4w := Lib.hid (HPGw.out ((p.den - frN p) * q.den) (T4_mul hx.2.2.2.2.1 hx.2.2.2.1))
    have HM6 := Lib.hid (HM3.out _ _ (T4_pow (T4_mul hx.1 hx.2.2.2.1) (m := f) (by omega)) (T4_pow (T4_mul hx.2.2.2.2.1 hx.2.2.2.1) (m := n - f) (by omega)))
    clear p0 p1 p2 p3 p4 p5 p6 p7 b1 b3 n1 n2 n3 n4 hbc hx hl1 hl2 hl3 hl4 e1 e2
    go_upto_region 1 with fail
    go_region_held3 (fun X => Below wc.heap.size wc X ∧ X.cell? ⟨B1, 1, none⟩ = some (.slice A1 l1.length c1) ∧ X.cell? ⟨B1, 2, none⟩ = some (.slice A2 l2.length c2) ∧ X.cell? ⟨B2, 1, none⟩ = some (.slice A3 l3.length c3) ∧ X.cell? ⟨B2, 2, none⟩ = some (.slice A4 l4.length c4))
      (first
        | exact HKB.out _ (Below.refl _ wc).drew
        | (go_split_ands; refine HKB.out _ (below_next ?_ hb11); assumption)
        | (go_split_ands; refine HKB.out _ (below_next ?_ hb12); assumption)
        | (go_split_ands; refine HKB.out _ (below_next ?_ hb13); assumption)
        | (go_split_ands; refine HKB.out _ (below_next ?_ hb14); assumption)
        | (go_split_ands; refine HKB.out _ (below_next ?_ hb15); assumption)
        | (go_split_ands; refine HKB.out _ (below_next ?_ hb16); assumption))
      (first
        | (go_at_call 57; (with_reducible refine (HM1.out _ (by go_split_ands; assumption)).mono ?_); rintro e w11 ⟨A11, c11, l11, rfl, hn11, hb11⟩)
        | (go_at_call 87; (with_reducible refine (HP1.out w11 _ _ _ hn11).mono ?_); rintro e w12 ⟨A12, c12, l12, rfl, hn12, hb12⟩)
        | (go_at_call 84; (with_reducible refine (HS1.out _ (by go_split_ands; assumption)).mono ?_); rintro e w13 ⟨A13, c13, l13, rfl, hn13, hb13⟩)
        | (go_at_call 57; (with_reducible refine (HM2.out w13 _ _ _ (by go_split_ands; assumption) hn13).mono ?_); rintro e w14 ⟨A14, c14, l14, rfl, hn14, hb14⟩)
        | (go_at_call 87; (with_reducible refine (HP2.out w14 _ _ _ hn14).mono ?_); rintro e w15 ⟨A15, c15, l15, rfl, hn15, hb15⟩)
        | (go_at_call 87; (with_reducible refine (HP2w.out w14 _ _ _ hn14).mono ?_); rintro e w15 ⟨A15, c15, l15, rfl, hn15, hb15⟩)
        | (go_at_call 57; (with_reducible refine (HM3a.out w15 _ _ _ _ _ _ (((hn12.on hb13).on hb14).on hb15) hn15).mono ?_); rintro e w16 ⟨A16, c16, l16, rfl, hn16, hb16⟩))
    have hbl1 : Below wc.heap.size wc w16 := by go_split_ands; assumption
    have HN16 := Lib.hid hn16
    have HBL1 := Lib.hid hbl1
    have HKB2 := Lib.hid (show ∀ X, Below w16.heap.size w16 X → (fun X => Below w16.heap.size w16 X ∧ X.cell? ⟨B1, 1, none⟩ = some (.slice A1 l1.length c1) ∧ X.cell? ⟨B1, 2, none⟩ = some (.slice A2 l2.length c2) ∧ X.cell? ⟨B2, 1, none⟩ = some (.slice A3 l3.length c3) ∧ X.cell? ⟨B2, 2, none⟩ = some (.slice A4 l4.length c4)) X from fun X hX => ⟨hX, (HKB.out X (below_next HBL1.out hX)).2⟩)
    have HM4' := Lib.hid (fun W (hb : Below w16.heap.size w16 W) => HM4.out W (below_next HBL1.out hb))
    have HS2' := Lib.hid (fun W (hb : Below w16.heap.size w16 W) => HS2.out W (below_next HBL1.out hb))
    have HM5' := Lib.hid (fun W A c l (hb : Below w16.heap.size w16 W) => HM5.out W A c l (below_next HBL1.out hb))
    clear hbl1 hn11 hn12 hn13 hn14 hn15 hn16 hb11 hb12 hb13 hb14 hb15 hb16
    go_upto_region 1 with fail
    go_region_held3 (fun X => Below w16.heap.size w16 X ∧ X.cell? ⟨B1, 1, none⟩ = some (.slice A1 l1.length c1) ∧ X.cell? ⟨B1, 2, none⟩ = some (.slice A2 l2.length c2) ∧ X.cell? ⟨B2, 1, none⟩ = some (.slice A3 l3.length c3) ∧ X.cell? ⟨B2, 2, none⟩ = some (.slice A4 l4.length c4))
      (first
        | exact HKB2.out _ (Below.refl _ w16).drew
        | (go_split_ands; refine HKB2.out _ (below_next ?_ hb21); assumption)
        | (go_split_ands; refine HKB2.out _ (below_next ?_ hb22); assumption)
        | (go_split_ands; refine HKB2.out _ (below_next ?_ hb23); assumption)
        | (go_split_ands; refine HKB2.out _ (below_next ?_ hb24); assumption)
        | (go_split_ands; refine HKB2.out _ (below_next ?_ hb25); assumption)
        | (go_split_ands; refine HKB2.out _ (below_next ?_ hb26); assumption))
      (first
        | (go_at_call 57; (with_reducible refine (HM4'.out _ (by go_split_ands; assumption)).mono ?_); rintro e w21 ⟨A21, c21, l21, rfl, hn21, hb21⟩)
        | (go_at_call 87; (with_reducible refine (HP3.out w21 _ _ _ hn21).mono ?_); rintro e w22 ⟨A22, c22, l22, rfl, hn22, hb22⟩)
        | (go_at_call 84; (with_reducible refine (HS2'.out _ (by go_split_ands; assumption)).mono ?_); rintro e w23 ⟨A23, c23, l23, rfl, hn23, hb23⟩)
        | (go_at_call 57; (with_reducible refine (HM5'.out w23 _ _ _ (by go_split_ands; assumption) hn23).mono ?_); rintro e w24 ⟨A24, c24, l24, rfl, hn24, hb24⟩)
        | (go_at_call 87; (with_reducible refine (HP4.out w24 _ _ _ hn24).mono ?_); rintro e w25 ⟨A25, c25, l25, rfl, hn25, hb25⟩)
        | (go_at_call 87; (with_reducible refine (HP4w.out w24 _ _ _ hn24).mono ?_); rintro e w25 ⟨A25, c25, l25, rfl, hn25, hb25⟩)
        | (go_at_call 57; (with_reducible refine (HM6.out w25 _ _ _ _ _ _ (((hn22.on hb23).on hb24).on hb25) hn25).mono ?_); rintro e w26 ⟨A26, c26, l26, rfl, hn26, hb26⟩))
    have hbl2 : Below w16.heap.size w16 w26 := by go_split_ands; assumption
    have HN26 := Lib.hid hn26
    have HN16' := Lib.hid (HN16.out.on hbl2)
    have HBF := Lib.hid (below_next HB3.out (below_next HBL1.out hbl2))
    clear hbl2 hn21 hn22 hn23 hn24 hn25 hn26 hb21 hb22 hb23 hb24 hb25 hb26
    go_wp2
    refine bodyPost_ret (v := .tuple #[.slice A16 l16.length c16, .slice A26 l26.length c26]) (by simp [results, Tryz.results128, go_sem]) rfl ⟨_, _, _, _, _, _, rfl, by rw [HU.out]; exact HN16'.out, by rw [HD.out]; exact HN26.out, HBF.out⟩
end Go.Proofs.YtlkjgjojahjapaaGreatDoor
