import Derived.Test.YtlkjgjojahjapaaGreatDoorG32
/- Package judge: what L says. Printed by gen_jtrl.py. -/
namespace Go.Proofs.YtlkjgjojahjapaaGreatDoor
open Go Go.RowKit Go.Proofs

set_option maxHeartbeats 8000000 in
set_option maxRecDepth 100000 in
theorem jVerdict_any (B : Nat) (u : Value) (b : Bool) (x y K : Nat) (p q r0 r1 : Rat) (w : World) (hT : TrR w B p q r0 r1) (hok : TrOk p q r0 r1) (h : JF w u b x y) (hx : x < W64 ^ K) (hy : y < W64 ^ K) (hK : K ≤ 100000) :
    Calls Tryz.prog 119 #[.pointer (some ⟨B, 0, none⟩), u] w fun e w' => e = .returned (.int .i64 (verT r0 r1 x y)) ∧ Below w.heap.size w w' := by
  obtain ⟨A1, c1, l1, A2, c2, l2, rfl, h1, h2⟩ := h
  obtain ⟨A3, c3, l3, A4, c4, l4, hkA, h3, h4⟩ := hT.k0.get
  obtain ⟨A5, c5, l5, A6, c6, l6, hkB, h5, h6⟩ := hT.k1.get
  have hl1 := h1.len hx
  have hl2 := h2.len hy
  have s3 : frN r0 < W64 ^ 1 := by have := hok.a1; have := hok.a2; unfold W64; omega
  have s4 : r0.den < W64 ^ 1 := by have := hok.a2; unfold W64; omega
  have s5 : frN r1 < W64 ^ 1 := by have := hok.b1; have := hok.b2; unfold W64; omega
  have s6 : r1.den < W64 ^ 1 := by have := hok.b2; unfold W64; omega
  have hl3 := h3.len s3
  have hl4 := h4.len s4
  have hl5 := h5.len s5
  have hl6 := h6.len s6
  obtain ⟨W0, hW0⟩ : ∃ W0, W0 = w.alloc (.cells #[.bool b, .slice A1 l1.length c1, .slice A2 l2.length c2] 71) := ⟨_, rfl⟩
  have HST0 := Lib.hid (show St w W0 [(w.heap.size, .cells #[.bool b, .slice A1 l1.length c1, .slice A2 l2.length c2] 71 (0, 0))] by rw [hW0]; exact (St.start w).alloc _ _ rfl)
  have HKS := Lib.hid (show ∀ X, Below W0.heap.size W0 X → (fun X => Below W0.heap.size W0 X ∧ X.cell? ⟨w.heap.size, 1, none⟩ = some (.slice A1 l1.length c1) ∧ X.cell? ⟨w.heap.size, 2, none⟩ = some (.slice A2 l2.length c2) ∧ X.cell? ⟨B, 7, none⟩ = some (.slice A3 l3.length c3) ∧ X.cell? ⟨B, 8, none⟩ = some (.slice A4 l4.length c4) ∧ X.cell? ⟨B, 10, none⟩ = some (.slice A5 l5.length c5) ∧ X.cell? ⟨B, 11, none⟩ = some (.slice A6 l6.length c6)) X from fun X hX => ⟨hX, (HST0.out.call hX).cell 0 1 rfl rfl, (HST0.out.call hX).cell 0 2 rfl rfl, (hkA X (below_next HST0.out.below hX)).2.1, (hkA X (below_next HST0.out.below hX)).2.2, (hkB X (below_next HST0.out.below hX)).2.1, (hkB X (below_next HST0.out.below hX)).2.2⟩)
  have HM1 := Lib.hid (fun W (hb : Below W0.heap.size W0 W) => natMul_any A1 A3 c1 c3 l1 l3 x (frN r0) W (h1.on (below_next HST0.out.below hb)) (h3.on (below_next HST0.out.below hb)) (by omega) (by omega))
  have HM2 := Lib.hid (fun W (hb : Below W0.heap.size W0 W) => natMul_any A2 A4 c2 c4 l2 l4 y r0.den W (h2.on (below_next HST0.out.below hb)) (h4.on (below_next HST0.out.below hb)) (by omega) (by omega))
  have HM3 := Lib.hid (fun W (hb : Below W0.heap.size W0 W) => natMul_any A1 A6 c1 c6 l1 l6 x r1.den W (h1.on (below_next HST0.out.below hb)) (h6.on (below_next HST0.out.below hb)) (by omega) (by omega))
  have HM4 := Lib.hid (fun W (hb : Below W0.heap.size W0 W) => natMul_any A2 A5 c2 c5 l2 l5 y (frN r1) W (h2.on (below_next HST0.out.below hb)) (h5.on (below_next HST0.out.below hb)) (by omega) (by omega))
  have hm := fun (s t : Nat) (hs : s < W64 ^ K) (ht : t < W64 ^ 1) => W64_mul hs ht
  have HCM := Lib.hid (fun (s t : Nat) (hs : s < W64 ^ (K + 1)) (ht : t < W64 ^ (K + 1)) W A A' c c' l l' (g : NatR W A c l s) (g' : NatR W A' c' l' t) => (natCmp_any A A' c c' l l' s t W g g' (by have := g.len hs; omega) (by have := g'.len ht; omega)).mono (R' := fun e w' => e = .returned (.int .i64 (cmpN s t)) ∧ Below W.heap.size W w') fun e w' ⟨he, q, hq⟩ => ⟨he, by rw [hq]; exact below_drewN (Below.refl _ _) q⟩)
  have HC1 := Lib.hid (HCM.out _ _ (hm _ _ hx s3) (hm _ _ hy s4))
  have HC2 := Lib.hid (HCM.out _ _ (hm _ _ hx s6) (hm _ _ hy s5))
  have e1 := geT (x * frN r0) (y * r0.den)
  have e2 := leT (x * r1.den) (y * frN r1)
  have hV1 := Lib.hid (show decide (y * r0.den ≤ x * frN r0) = true → verT r0 r1 x y = 2 from fun hh => by unfold verT hiT; rw [hh]; rfl)
  have hV2 := Lib.hid (show decide (y * r0.den ≤ x * frN r0) = false → decide (x * r1.den ≤ y * frN r1) = true → verT r0 r1 x y = 1 from fun hh hg => by unfold verT hiT loT; rw [hh, hg]; rfl)
  have hV3 := Lib.hid (show decide (y * r0.den ≤ x * frN r0) = false → decide (x * r1.den ≤ y * frN r1) = false → verT r0 r1 x y = 3 from fun hh hg => by unfold verT hiT loT; rw [hh, hg]; rfl)
  rw [← e1] at hV1 hV2 hV3
  rw [← e2] at hV2 hV3
  obtain ⟨V, hV⟩ : ∃ V, V = verT r0 r1 x y := ⟨_, rfl⟩
  rw [← hV] at hV1 hV2 hV3 ⊢
  obtain ⟨k1, hk1⟩ : ∃ k, k = cmpN (x * frN r0) (y * r0.den) := ⟨_, rfl⟩
  obtain ⟨k2, hk2⟩ : ∃ k, k = cmpN (x * r1.den) (y * frN r1) := ⟨_, rfl⟩
  rw [← hk1] at hV1 hV2 hV3 HC1
  rw [← hk2] at hV2 hV3 HC2
  obtain ⟨t1, ht1⟩ : ∃ t, t = decide (0 ≤ k1) := ⟨_, rfl⟩
  obtain ⟨t2, ht2⟩ : ∃ t, t = decide (k2 ≤ 0) := ⟨_, rfl⟩
  rw [← ht1] at hV1 hV2 hV3
  rw [← ht2] at hV2 hV3
  have e3 := ht1.symm
  have e4 := ht2.symm
  clear ht1 ht2
  clear hkA hkB hV hk1 hk2 e1 e2 hm hT hok h1 h2 h3 h4 h5 h6 hx hy s3 s4 s5 s6 hl1 hl2 hl3 hl4 hl5 hl6 HCM
  go_enter Tryz.func119, Tryz.ntmps119
  go_upto_region 1 with fail
  rw [← hW0]
  clear hW0
  go_region_held3 (fun X => Below W0.heap.size W0 X ∧ X.cell? ⟨w.heap.size, 1, none⟩ = some (.slice A1 l1.length c1) ∧ X.cell? ⟨w.heap.size, 2, none⟩ = some (.slice A2 l2.length c2) ∧ X.cell? ⟨B, 7, none⟩ = some (.slice A3 l3.length c3) ∧ X.cell? ⟨B, 8, none⟩ = some (.slice A4 l4.length c4) ∧ X.cell? ⟨B, 10, none⟩ = some (.slice A5 l5.length c5) ∧ X.cell? ⟨B, 11, none⟩ = some (.slice A6 l6.length c6))
    (first
      | exact HKS.out _ (Below.refl _ W0).drew
      | (go_split_ands; refine HKS.out _ (below_next ?_ hb14); assumption)
      | (go_split_ands; refine HKS.out _ (below_next ?_ hb15); assumption)
      | (go_split_ands; refine HKS.out _ (below_next ?_ hb16); assumption))
    (first
      | (go_at_call 42; (with_reducible refine (HM1.out _ (by go_split_ands; assumption)).mono ?_); rintro e w14 ⟨A14, c14, l14, rfl, hn14, hb14⟩)
      | (go_at_call 42; (with_reducible refine (HM2.out _ (by go_split_ands; assumption)).mono ?_); rintro e w15 ⟨A15, c15, l15, rfl, hn15, hb15⟩)
      | (go_at_call 95; (with_reducible refine (HC1.out w15 _ _ _ _ _ _ (hn14.on hb15) hn15).mono ?_); rintro e w16 ⟨rfl, hb16⟩))
  have hbl : Below W0.heap.size W0 w16 := by go_split_ands; assumption
  have HB8 := Lib.hid hbl
  clear hbl hn14 hn15 hb14 hb15 hb16
  cases t1 with
  | true =>
    have hv := hV1.out (by first | rfl | trivial)
    subst hv
    have HBF := Lib.hid (below_next HST0.out.below HB8.out)
    go_wp2
    go_ret
    exact ⟨rfl, HBF.out⟩
  | false =>
    have HKS2 := Lib.hid (show ∀ X, Below w16.heap.size w16 X → (fun X => Below w16.heap.size w16 X ∧ X.cell? ⟨w.heap.size, 1, none⟩ = some (.slice A1 l1.length c1) ∧ X.cell? ⟨w.heap.size, 2, none⟩ = some (.slice A2 l2.length c2) ∧ X.cell? ⟨B, 7, none⟩ = some (.slice A3 l3.length c3) ∧ X.cell? ⟨B, 8, none⟩ = some (.slice A4 l4.length c4) ∧ X.cell? ⟨B, 10, none⟩ = some (.slice A5 l5.length c5) ∧ X.cell? ⟨B, 11, none⟩ = some (.slice A6 l6.length c6)) X from fun X hX => ⟨hX, (HKS.out X (below_next HB8.out hX)).2⟩)
    go_upto_region 1 with fail
    go_region_held3 (fun X => Below w16.heap.size w16 X ∧ X.cell? ⟨w.heap.size, 1, none⟩ = some (.slice A1 l1.length c1) ∧ X.cell? ⟨w.heap.size, 2, none⟩ = some (.slice A2 l2.length c2) ∧ X.cell? ⟨B, 7, none⟩ = some (.slice A3 l3.length c3) ∧ X.cell? ⟨B, 8, none⟩ = some (.slice A4 l4.length c4) ∧ X.cell? ⟨B, 10, none⟩ = some (.slice A5 l5.length c5) ∧ X.cell? ⟨B, 11, none⟩ = some (.slice A6 l6.length c6))
      (first
        | exact HKS2.out _ (Below.refl _ w16).drew
        | (go_split_ands; refine HKS2.out _ (below_next ?_ hb18); assumption)
        | (go_split_ands; refine HKS2.out _ (below_next ?_ hb19); assumption)
        | (go_split_ands; refine HKS2.out _ (below_next ?_ hb20); assumption))
      (first
        | (go_at_call 42; (with_reducible refine (HM3.out _ (below_next HB8.out (by go_split_ands; assumption))).mono ?_); rintro e w18 ⟨A18, c18, l18, rfl, hn18, hb18⟩)
        | (go_at_call 42; (with_reducible refine (HM4.out _ (below_next HB8.out (by go_split_ands; assumption))).mono ?_); rintro e w19 ⟨A19, c19, l19, rfl, hn19, hb19⟩)
        | (go_at_call 95; (with_reducible refine (HC2.out w19 _ _ _ _ _ _ (hn18.on hb19) hn19).mono ?_); rintro e w20 ⟨rfl, hb20⟩))
    have hbl : Below w16.heap.size w16 w20 := by go_split_ands; assumption
    have HBF := Lib.hid (below_next HST0.out.below (below_next HB8.out hbl))
    clear hbl hn18 hn19 hb18 hb19 hb20
    cases t2 with
    | true =>
      have hv := hV2.out (by first | rfl | trivial) (by first | rfl | trivial)
      subst hv
      go_wp2
      go_ret
      exact ⟨rfl, HBF.out⟩
    | false =>
      have hv := hV3.out (by first | rfl | trivial) (by first | rfl | trivial)
      subst hv
      go_wp2
      go_ret
      exact ⟨rfl, HBF.out⟩
end Go.Proofs.YtlkjgjojahjapaaGreatDoor

/- Package judge: what so many results of a trial say; its bounds. Printed by gen_jbnd.py. -/
namespace Go.Proofs.YtlkjgjojahjapaaGreatDoor
open Go Go.RowKit Go.Proofs

theorem pow_under {x m n : Nat} (hx : x < W64 ^ 1) (hm : m < n) : x ^ m < W64 ^ n := by
  rw [Nat.pow_one] at hx
  exact Nat.lt_of_le_of_lt (Nat.pow_le_pow_left (Nat.le_of_lt hx) m) (Nat.pow_lt_pow_right W64_pos hm)
set_option maxHeartbeats 8000000 in
set_option maxRecDepth 100000 in
theorem jAfter_any (B n f : Nat) (p q r0 r1 : Rat) (w : World) (hT : TrR w B p q r0 r1) (hok : TrOk p q r0 r1) (hf : f ≤ n) (hn : n ≤ 2000) :
    Calls Tryz.prog 80 #[.pointer (some ⟨B, 0, none⟩), .int .i64 (n : Nat), .int .i64 (f : Nat)] w fun e w' => e = .returned (.int .i64 (verN p q r0 r1 n f)) ∧ Below w.heap.size w w' := by
  obtain ⟨A1, c1, l1, A2, c2, l2, hk0, h1, h2⟩ := hT.bad.get
  obtain ⟨A3, c3, l3, A4, c4, l4, hk1, h3, h4⟩ := hT.good.get
  obtain ⟨g1, g2, g3, g4⟩ := tr_lt hok.g hok.s
  have g1 : bdN p q < W64 ^ 1 := by unfold W64; omega
  have g2 : bdD p q < W64 ^ 1 := by unfold W64; omega
  have g3 : gdN p q < W64 ^ 1 := by unfold W64; omega
  have g4 : gdD p q < W64 ^ 1 := by unfold W64; omega
  obtain ⟨K, hK⟩ : ∃ K : Nat, 2000 < K ∧ K ≤ 2001 := ⟨2001, by omega, by omega⟩
  have hpw : ∀ x m : Nat, x < W64 ^ 1 → m ≤ 2000 → x ^ m < W64 ^ K := fun x m hx hm => pow_under hx (Nat.lt_of_le_of_lt hm hK.1)
  have hv := ver_low r0 r1 hok.g n f
  have HPB := Lib.hid (fun W (hb : Below w.heap.size w W) => jPower_any _ false _ _ f W (jf_mk (h1.on hb) (h2.on hb)) g1 g2 (by omega))
  have HPG := Lib.hid (fun W (hb : Below w.heap.size w W) => jPower_any _ false _ _ (n - f) W (jf_mk (h3.on hb) (h4.on hb)) g3 g4 (by omega))
  rw [show (((n - f : Nat)) : Int) = IntKind.i64.wrap ((n : Int) - (f : Int)) by rw [IntWalk.i64_in _ (by omega)]; omega] at HPG
  have q1 := hpw _ f g1 (by omega)
  have q2 := hpw _ f g2 (by omega)
  have q3 := hpw _ (n - f) g3 (by omega)
  have q4 := hpw _ (n - f) g4 (by omega)
  have HTM := Lib.hid (fun W u v (hu : JF W u false (bdN p q ^ f) (bdD p q ^ f)) (hv : JF W v false (gdN p q ^ (n - f)) (gdD p q ^ (n - f))) => jTimes_any K u v false false _ _ _ _ W (by omega) hu hv q1 q2 q3 q4)
  have HVD := Lib.hid (fun W u (hb : Below w.heap.size w W) (hu : JF W u (false != false) (bdN p q ^ f * gdN p q ^ (n - f)) (bdD p q ^ f * gdD p q ^ (n - f))) => jVerdict_any B u (false != false) _ _ (K + K) p q r0 r1 W (hT.on hb) hok hu (W64_mul q1 q3) (W64_mul q2 q4) (by omega))
  rw [hv] at HVD
  have HKS := Lib.hid (show ∀ X, Below w.heap.size w X → (fun X => Below w.heap.size w X ∧ X.cell? ⟨B, 12, none⟩ = some (.bool false) ∧ X.cell? ⟨B, 13, none⟩ = some (.slice A1 l1.length c1) ∧ X.cell? ⟨B, 14, none⟩ = some (.slice A2 l2.length c2) ∧ X.cell? ⟨B, 15, none⟩ = some (.bool false) ∧ X.cell? ⟨B, 16, none⟩ = some (.slice A3 l3.length c3) ∧ X.cell? ⟨B, 17, none⟩ = some (.slice A4 l4.length c4)) X from fun X hX => ⟨hX, (hk0 X hX).1, (hk0 X hX).2.1, (hk0 X hX).2.2, (hk1 X hX).1, (hk1 X hX).2.1, (hk1 X hX).2.2⟩)
  obtain ⟨V, hV⟩ : ∃ V, V = verN p q r0 r1 n f := ⟨_, rfl⟩
  rw [← hV] at HVD ⊢
  obtain ⟨x1, hx1⟩ : ∃ x, x = bdN p q ^ f := ⟨_, rfl⟩
  obtain ⟨x2, hx2⟩ : ∃ x, x = bdD p q ^ f := ⟨_, rfl⟩
  obtain ⟨x3, hx3⟩ : ∃ x, x = gdN p q ^ (n - f) := ⟨_, rfl⟩
  obtain ⟨x4, hx4⟩ : ∃ x, x = gdD p q ^ (n - f) := ⟨_, rfl⟩
  rw [← hx1, ← hx2] at HPB
  rw [← hx3, ← hx4] at HPG
  rw [← hx1, ← hx2, ← hx3, ← hx4] at HTM HVD
  clear hV hx1 hx2 hx3 hx4 hv q1 q2 q3 q4 g1 g2 g3 g4 hpw h1 h2 h3 h4 hT hok hk0 hk1
  go_enter Tryz.func80, Tryz.ntmps80
  go_upto_region 1 with fail
  refine wp_region_noPanic ?_
  refine wp_region_held_drew (S := (fun X => Below w.heap.size w X ∧ X.cell? ⟨B, 12, none⟩ = some (.bool false) ∧ X.cell? ⟨B, 13, none⟩ = some (.slice A1 l1.length c1) ∧ X.cell? ⟨B, 14, none⟩ = some (.slice A2 l2.length c2) ∧ X.cell? ⟨B, 15, none⟩ = some (.bool false) ∧ X.cell? ⟨B, 16, none⟩ = some (.slice A3 l3.length c3) ∧ X.cell? ⟨B, 17, none⟩ = some (.slice A4 l4.length c4))) (by kernel_rfl) (HKS.out _ (Below.refl _ w).drew) (fun HS0 => ?_)
  have hbx0 : Below w.heap.size w w.drew := (Below.refl _ _).drew
  obtain ⟨Xx0, hXx0⟩ : ∃ X, X = w.drew := ⟨_, rfl⟩
  rw [← hXx0] at hbx0 HS0 ⊢
  have HBx0 := Lib.hid hbx0
  clear hbx0 hXx0
  refine wpAnyH_take (i := 0) (v := ?_) rfl (by kernel_rfl) (by kernel_rfl) (by kernel_rfl) (fun _ _ _ h => h) (Or.inl ⟨by rfl, ?_⟩) HS0 ?_
  rotate_left
  · intro W hW; (try dsimp only at hW); go_simp; try (with_reducible rfl)

  refine wpAnyH_take (i := 1) (v := ?_) rfl (by kernel_rfl) (by kernel_rfl) (by kernel_rfl) (fun _ _ _ h => h) (Or.inl ⟨by rfl, ?_⟩) HS0 ?_
  rotate_left
  · intro W hW; (try dsimp only at hW); go_simp; try (with_reducible rfl)

  refine wpAnyH_take (i := 2) (v := ?_) rfl (by kernel_rfl) (by kernel_rfl) (by kernel_rfl) (fun _ _ _ h => h) (Or.inl ⟨by rfl, ?_⟩) HS0 ?_
  rotate_left
  · intro W hW; (try dsimp only at hW); go_simp; try (with_reducible rfl)

  refine wpAnyH_take (i := 3) (v := ?_) rfl (by kernel_rfl) (by kernel_rfl) (by kernel_rfl) (fun _ _ _ h => h) (Or.inl ⟨by rfl, ?_⟩) HS0 ?_
  rotate_left
  · intro W hW; (try dsimp only at hW); go_simp; try (with_reducible rfl)

  refine wpAnyH_take (i := 4) (v := ?_) rfl (by kernel_rfl) (by kernel_rfl) (by kernel_rfl) (fun _ _ _ h => h) (Or.inl ⟨by rfl, ?_⟩) HS0 ?_
  rotate_left
  · intro W hW; (try dsimp only at hW); go_simp; try (with_reducible rfl)

  refine wpAnyH_take (i := 5) (v := ?_) rfl (by kernel_rfl) (by kernel_rfl) (by kernel_rfl) (fun _ _ _ h => h) (Or.inl ⟨by rfl, ?_⟩) HS0 ?_
  rotate_left
  · intro W hW; (try dsimp only at hW); go_simp; try (with_reducible rfl)

  refine wpAnyH_take (i := 7) (v := ?_) rfl (by kernel_rfl) (by kernel_rfl) (by kernel_rfl) (fun _ _ _ h => h) (Or.inl ⟨by rfl, ?_⟩) HS0 ?_
  rotate_left
  · intro W hW; (try dsimp only at hW); go_simp; try (with_reducible rfl)

  refine wpAnyH_take (i := 8) (v := ?_) rfl (by kernel_rfl) (by kernel_rfl) (by kernel_rfl) (fun _ _ _ h => h) (Or.inl ⟨by rfl, ?_⟩) HS0 ?_
  rotate_left
  · intro W hW; (try dsimp only at hW); go_simp; try (with_reducible rfl)

  refine wpAnyH_take (i := 9) (v := ?_) rfl (by kernel_rfl) (by kernel_rfl) (by kernel_rfl) (fun _ _ _ h => h) (Or.inl ⟨by rfl, ?_⟩) HS0 ?_
  rotate_left
  · intro W hW; (try dsimp only at hW); go_simp; try (with_reducible rfl)

  refine wpAnyH_take (i := 10) (v := ?_) rfl (by kernel_rfl) (by kernel_rfl) (by kernel_rfl) (fun _ _ _ h => h) (Or.inl ⟨by rfl, ?_⟩) HS0 ?_
  rotate_left
  · intro W hW; (try dsimp only at hW); go_simp; try (with_reducible rfl)

  refine wpAnyH_take (i := 11) (v := ?_) rfl (by kernel_rfl) (by kernel_rfl) (by kernel_rfl) (fun _ _ _ h => h) (Or.inl ⟨by rfl, ?_⟩) HS0 ?_
  rotate_left
  · intro W hW; (try dsimp only at hW); go_simp; try (with_reducible rfl)

  refine wpAnyH_take (i := 12) (v := ?_) rfl (by kernel_rfl) (by kernel_rfl) (by kernel_rfl) (fun _ _ _ h => h) (Or.inl ⟨by rfl, ?_⟩) HS0 ?_
  rotate_left
  · intro W hW; (try dsimp only at hW); go_simp; try (with_reducible rfl)

  refine wpAnyH_take (i := 13) (v := ?_) rfl (by kernel_rfl) (by kernel_rfl) (by kernel_rfl) (fun _ _ _ h => h) (Or.inl ⟨by rfl, ?_⟩) HS0 ?_
  rotate_left
  · intro W hW; (try dsimp only at hW); go_simp; try (with_reducible rfl)

  clear HS0
  refine run_one (i := 6) (by kernel_rfl) rfl rfl ?_
  intro K hK
  go_simp
  (with_reducible refine (HPB.out Xx0 (HBx0.out)).mono ?_)
  rintro e Xx1 ⟨v1, rfl, hvx1, hbx1⟩
  have HBx1 := Lib.hid (below_next (HBx0.out) hbx1)
  refine hK.out _ _ (HKS.out _ HBx1.out) ?_
  clear hK K
  intro _

  refine run_one (i := 14) (by kernel_rfl) rfl rfl ?_
  intro K hK
  go_simp
  (with_reducible refine (HPG.out Xx1 (HBx1.out)).mono ?_)
  rintro e Xx2 ⟨v2, rfl, hvx2, hbx2⟩
  have HBx2 := Lib.hid (below_next (HBx1.out) hbx2)
  refine hK.out _ _ (HKS.out _ HBx2.out) ?_
  clear hK K
  intro _

  refine run_one (i := 15) (by kernel_rfl) rfl rfl ?_
  intro K hK
  go_simp
  (with_reducible refine (HTM.out Xx2 _ _ ((hvx1).on hbx2) (hvx2)).mono ?_)
  rintro e Xx3 ⟨v3, rfl, hvx3, hbx3⟩
  have HBx3 := Lib.hid (below_next (HBx2.out) hbx3)
  refine hK.out _ _ (HKS.out _ HBx3.out) ?_
  clear hK K
  intro _

  refine run_one (i := 16) (by kernel_rfl) rfl rfl ?_
  intro K hK
  go_simp
  (with_reducible refine (HVD.out Xx3 _ (HBx3.out) (hvx3)).mono ?_)
  rintro e Xx4 ⟨rfl, hbx4⟩
  have HBx4 := Lib.hid (below_next (HBx3.out) hbx4)
  refine hK.out _ _ (HKS.out _ HBx4.out) ?_
  clear hK K
  intro _

  have HS0 := HKS.out _ (HBx4.out)
  refine wpAnyH_take (i := 17) (v := ?_) rfl (by kernel_rfl) (by kernel_rfl) (by kernel_rfl) (fun _ _ _ h => h) (Or.inl ⟨by rfl, ?_⟩) HS0 ?_
  rotate_left
  · intro W hW; (try dsimp only at hW); go_simp; try (with_reducible rfl)

  clear HS0
  refine wpAnyH_done (by kernel_rfl) ?_ _
  refine NoPanic.normal ?_
  have HBF := Lib.hid (HBx4.out)
  go_wp2
  go_ret
  exact ⟨rfl, HBF.out⟩

def PBox (w : World) (B : Nat) (v : Value) (t : TypeId) : Prop := w.heap[B]? = some (.cells #[v] t (0, 0))
theorem PBox.on {w w' : World} {B : Nat} {v : Value} {t : TypeId} (h : PBox w B v t) (hb : Below w.heap.size w w') : PBox w' B v t := (hb.block B (heap_lt h)).trans h
theorem PBox.cell {w : World} {B : Nat} {v : Value} {t : TypeId} (h : PBox w B v t) : w.cell? ⟨B, 0, none⟩ = some v := by rw [cellsAt h]; rfl
end Go.Proofs.YtlkjgjojahjapaaGreatDoor
