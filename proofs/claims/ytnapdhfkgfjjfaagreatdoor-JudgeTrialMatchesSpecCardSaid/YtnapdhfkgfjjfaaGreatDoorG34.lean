import Derived.Test.YtnapdhfkgfjjfaaGreatDoorG32
import Derived.Test.YtnapdhfkgfjjfaaGreatDoorG18
import Derived.Test.YtnapdhfkgfjjfaaGreatDoorG16
import Derived.Test.YtnapdhfkgfjjfaaGreatDoorG33
/- Package judge: a trial in memory; rest, power, verdict, after. Printed by gen_jtrl.py. -/
namespace Go.Proofs.YtnapdhfkgfjjfaaGreatDoor
open Go Go.RowKit Go.Proofs

theorem geT (x y : Nat) : decide (0 ≤ cmpN x y) = decide (y ≤ x) := by
  unfold cmpN
  rcases Nat.lt_trichotomy x y with h | h | h
  · rw [if_pos h, decide_eq_false (by omega), decide_eq_false (by omega)]
  · rw [if_neg (by omega), if_pos h, decide_eq_true (by omega), decide_eq_true (by omega)]
  · rw [if_neg (by omega), if_neg (by omega), decide_eq_true (by omega), decide_eq_true (by omega)]
theorem leT (x y : Nat) : decide (cmpN x y ≤ 0) = decide (x ≤ y) := by
  unfold cmpN
  rcases Nat.lt_trichotomy x y with h | h | h
  · rw [if_pos h, decide_eq_true (by omega), decide_eq_true (by omega)]
  · rw [if_neg (by omega), if_pos h, decide_eq_true (by omega), decide_eq_true (by omega)]
  · rw [if_neg (by omega), if_neg (by omega), decide_eq_false (by omega), decide_eq_false (by omega)]
/-- three cells of a trial: a fraction that is not negative -/
def JAt (w : World) (B o : Nat) (x y : Nat) : Prop := ∃ cs A1 c1 l1 A2 c2 l2, w.heap[B]? = some (.cells cs 90 (0, 0)) ∧ cs[o]? = some (.bool false) ∧ cs[o + 1]? = some (.slice A1 (l1 : List Nat).length c1) ∧ cs[o + 2]? = some (.slice A2 (l2 : List Nat).length c2) ∧ NatR w A1 c1 l1 x ∧ NatR w A2 c2 l2 y
theorem JAt.on {w w' : World} {B o x y : Nat} (h : JAt w B o x y) (hb : Below w.heap.size w w') : JAt w' B o x y := by
  obtain ⟨cs, A1, c1, l1, A2, c2, l2, h0, h1, h2, h3, h4, h5⟩ := h
  exact ⟨cs, A1, c1, l1, A2, c2, l2, (hb.block B (heap_lt h0)).trans h0, h1, h2, h3, h4.on hb, h5.on hb⟩
theorem JAt.get {w : World} {B o x y : Nat} (h : JAt w B o x y) : ∃ A1 c1 l1 A2 c2 l2, (∀ W, Below w.heap.size w W → W.cell? ⟨B, o, none⟩ = some (.bool false) ∧ W.cell? ⟨B, o + 1, none⟩ = some (.slice A1 (l1 : List Nat).length c1) ∧ W.cell? ⟨B, o + 2, none⟩ = some (.slice A2 (l2 : List Nat).length c2)) ∧ NatR w A1 c1 l1 x ∧ NatR w A2 c2 l2 y := by
  obtain ⟨cs, A1, c1, l1, A2, c2, l2, h0, h1, h2, h3, h4, h5⟩ := h
  refine ⟨A1, c1, l1, A2, c2, l2, fun W hb => ?_, h4, h5⟩
  have e := (hb.block B (heap_lt h0)).trans h0
  exact ⟨by rw [cellsAt e]; exact h1, by rw [cellsAt e]; exact h2, by rw [cellsAt e]; exact h3⟩
/-- a trial that is ready -/
structure TrR (w : World) (B : Nat) (p q r0 r1 : Rat) : Prop where
  p0 : JAt w B 0 (frN p) p.den
  p1 : JAt w B 3 (frN q) q.den
  k0 : JAt w B 6 (frN r0) r0.den
  k1 : JAt w B 9 (frN r1) r1.den
  bad : JAt w B 12 (bdN p q) (bdD p q)
  good : JAt w B 15 (gdN p q) (gdD p q)
theorem TrR.on {w w' : World} {B : Nat} {p q r0 r1 : Rat} (h : TrR w B p q r0 r1) (hb : Below w.heap.size w w') : TrR w' B p q r0 r1 := ⟨h.p0.on hb, h.p1.on hb, h.k0.on hb, h.k1.on hb, h.bad.on hb, h.good.on hb⟩
/-- what its numbers satisfy -/
structure TrOk (p q r0 r1 : Rat) : Prop where
  g : TrG p q
  s : TrS p q
  a0 : 0 < frN r0
  a1 : frN r0 < r0.den
  a2 : r0.den < 1000000
  b0 : 0 < frN r1
  b1 : frN r1 < r1.den
  b2 : r1.den < 1000000
set_option maxHeartbeats 8000000 in
set_option maxRecDepth 100000 in
theorem jRest_any (u : Value) (b : Bool) (x y n : Nat) (w : World) (h : JF w u b x y) (hxy : x ≤ y) (hy : y < W64 ^ n) (hn : n ≤ 900000) :
    Calls Tryz.prog 89 #[u] w (JFPost false (y - x) y w) := by
  obtain ⟨A1, c1, l1, A2, c2, l2, rfl, h1, h2⟩ := h
  have hl := h2.len hy
  obtain ⟨W0, hW0⟩ : ∃ W0, W0 = (w.alloc (.cells #[.bool b, .slice A1 l1.length c1, .slice A2 l2.length c2] 69)).alloc (.cells #[.bool false, .slice none 0 0, .slice none 0 0] 69) := ⟨_, rfl⟩
  have HST0 := Lib.hid (show St w W0 [(w.heap.size, .cells #[.bool b, .slice A1 l1.length c1, .slice A2 l2.length c2] 69 (0, 0)), (w.heap.size + 1, .cells #[.bool false, .slice none 0 0, .slice none 0 0] 69 (0, 0))] by rw [hW0]; exact ((St.start w).alloc _ _ rfl).alloc _ _ (by simp))
  have HX0 := Lib.hid (show JBox W0 (w.heap.size + 1) from HST0.out.at 1 rfl)
  have HA1 := Lib.hid (h1.on HST0.out.below)
  have HA2 := Lib.hid (h2.on HST0.out.below)
  have HKS := Lib.hid (show ∀ X, Below W0.heap.size W0 X → (fun X => Below W0.heap.size W0 X ∧ X.cell? ⟨w.heap.size, 0, none⟩ = some (.bool b) ∧ X.cell? ⟨w.heap.size, 1, none⟩ = some (.slice A1 l1.length c1) ∧ X.cell? ⟨w.heap.size, 2, none⟩ = some (.slice A2 l2.length c2)) X from fun X hX => ⟨hX, (HST0.out.call hX).cell 0 0 rfl rfl, (HST0.out.call hX).cell 0 1 rfl rfl, (HST0.out.call hX).cell 0 2 rfl rfl⟩)
  have HSB := Lib.hid (fun W (hb : Below W0.heap.size W0 W) => natSub_any A2 A1 c2 c1 l2 l1 _ _ W (HA2.out.on hb) (HA1.out.on hb) (by omega) hxy)
  clear h1 h2
  go_enter Tryz.func89, Tryz.ntmps89
  go_wp2_with fail
  rw [← hW0]
  clear hW0
  refine wp_region_last (init := #[_, _, _, _, _, _, _, _]) (last := _) rfl (by kernel_rfl) (by kernel_rfl) (by kernel_rfl) ?_
  show wpAny _ _ _ _ 8 (Array.replicate 8 false) _ _
  refine wpAny_of_held (S := (fun X => Below W0.heap.size W0 X ∧ X.cell? ⟨w.heap.size, 0, none⟩ = some (.bool b) ∧ X.cell? ⟨w.heap.size, 1, none⟩ = some (.slice A1 l1.length c1) ∧ X.cell? ⟨w.heap.size, 2, none⟩ = some (.slice A2 l2.length c2))) _ _ _ _ ?_
  have HS0 := HKS.out _ (Below.refl _ W0).drew
  refine wpAnyH_take (i := 0) (v := ?_) rfl (by kernel_rfl) (by kernel_rfl) (by kernel_rfl) (fun _ _ _ h => h) (Or.inl ⟨by rfl, ?_⟩) HS0 ?_
  rotate_left
  · intro W hW; (try dsimp only at hW); go_simp; try (with_reducible rfl)
  (try simp only [List.getElem_toArray, List.getElem_cons_succ, List.getElem_cons_zero, Act.put, List.setIfInBounds_toArray, List.set_cons_zero, List.set_cons_succ])
  refine wpAnyH_take (i := 1) (v := ?_) rfl (by kernel_rfl) (by kernel_rfl) (by kernel_rfl) (fun _ _ _ h => h) (Or.inl ⟨by rfl, ?_⟩) HS0 ?_
  rotate_left
  · intro W hW; (try dsimp only at hW); go_simp; try (with_reducible rfl)
  (try simp only [List.getElem_toArray, List.getElem_cons_succ, List.getElem_cons_zero, Act.put, List.setIfInBounds_toArray, List.set_cons_zero, List.set_cons_succ])
  refine wpAnyH_take (i := 2) (v := ?_) rfl (by kernel_rfl) (by kernel_rfl) (by kernel_rfl) (fun _ _ _ h => h) (Or.inl ⟨by rfl, ?_⟩) HS0 ?_
  rotate_left
  · intro W hW; (try dsimp only at hW); go_simp; try (with_reducible rfl)
  (try simp only [List.getElem_toArray, List.getElem_cons_succ, List.getElem_cons_zero, Act.put, List.setIfInBounds_toArray, List.set_cons_zero, List.set_cons_succ])
  refine wpAnyH_take (i := 3) (v := ?_) rfl (by kernel_rfl) (by kernel_rfl) (by kernel_rfl) (fun _ _ _ h => h) (Or.inl ⟨by rfl, ?_⟩) HS0 ?_
  rotate_left
  · intro W hW; (try dsimp only at hW); go_simp; try (with_reducible rfl)
  (try simp only [List.getElem_toArray, List.getElem_cons_succ, List.getElem_cons_zero, Act.put, List.setIfInBounds_toArray, List.set_cons_zero, List.set_cons_succ])
  refine wpAnyH_take (i := 5) (v := ?_) rfl (by kernel_rfl) (by kernel_rfl) (by kernel_rfl) (fun _ _ _ h => h) (Or.inl ⟨by rfl, ?_⟩) HS0 ?_
  rotate_left
  · intro W hW; (try dsimp only at hW); go_simp; try (with_reducible rfl)
  (try simp only [List.getElem_toArray, List.getElem_cons_succ, List.getElem_cons_zero, Act.put, List.setIfInBounds_toArray, List.set_cons_zero, List.set_cons_succ])
  refine wpAnyH_take (i := 6) (v := ?_) rfl (by kernel_rfl) (by kernel_rfl) (by kernel_rfl) (fun _ _ _ h => h) (Or.inl ⟨by rfl, ?_⟩) HS0 ?_
  rotate_left
  · intro W hW; (try dsimp only at hW); go_simp; try (with_reducible rfl)
  (try simp only [List.getElem_toArray, List.getElem_cons_succ, List.getElem_cons_zero, Act.put, List.setIfInBounds_toArray, List.set_cons_zero, List.set_cons_succ])
  refine run_one (i := 4) (by kernel_rfl) rfl rfl ?_
  intro K hK
  go_simp
  refine (HSB.out _ HS0.1).mono ?_
  rintro e w8 ⟨A7, c7, l7, rfl, hn7, hb7⟩
  refine hK.out _ _ (HKS.out _ (below_next HS0.1 hb7)) ?_
  clear hK K
  have HSP := HS0
  clear HS0
  intro HS0
  refine run_one (i := 7) (by kernel_rfl) rfl rfl ?_
  intro K hK
  go_simp
  refine (jOf_any _ _ _ _ _ _ _ _ w8 hn7 (HA2.out.on HS0.1)).mono ?_
  rintro e w9 ⟨v9, rfl, hv, hb9⟩
  refine hK.out _ _ (HKS.out _ (below_next HS0.1 hb9)) ?_
  clear hK K
  have HSP := HS0
  clear HS0
  intro HS0
  refine wpAnyH_done (by kernel_rfl) ?_ _
  simp only [LastQ]
  obtain ⟨A8, c8, l8, A9, c9, l9, rfl, hj1, hj2⟩ := hv
  have HF := Lib.hid (fun W (hf : Fr (fun i => i = w.heap.size + 1) w9 W) => jf_ret (HX0.out.on HS0.1) (jf_mk (b := false) hj1 hj2) (below_next HST0.out.below HS0.1) (by omega) hf)
  obtain ⟨k0, k1, k2, z0, z1, z2, hlt⟩ := (HX0.out.on HS0.1).facts
  clear HS0 HSP hj1 hj2
  go_simp
  go_wp2
  refine bodyPost_ret (v := .agg #[.bool false, .slice A8 l8.length c8, .slice A9 l9.length c9]) (by simp [results, Tryz.results89, go_sem, k0, k1, k2]) rfl ⟨_, rfl, HF.out _ (fr3 _ _ _)⟩
set_option maxHeartbeats 8000000 in
set_option maxRecDepth 100000 in
theorem jPower_any (u : Value) (b : Bool) (x y n : Nat) (w : World) (h : JF w u b x y) (hx : x < W64 ^ 1) (hy : y < W64 ^ 1) (hn : n ≤ 100000) :
    Calls Tryz.prog 121 #[u, .int .i64 (n : Nat)] w (JFPost false (x ^ n) (y ^ n) w) := by
  obtain ⟨A1, c1, l1, A2, c2, l2, rfl, h1, h2⟩ := h
  obtain ⟨W0, hW0⟩ : ∃ W0, W0 = (w.alloc (.cells #[.bool b, .slice A1 l1.length c1, .slice A2 l2.length c2] 69)).alloc (.cells #[.bool false, .slice none 0 0, .slice none 0 0] 69) := ⟨_, rfl⟩
  have HST0 := Lib.hid (show St w W0 [(w.heap.size, .cells #[.bool b, .slice A1 l1.length c1, .slice A2 l2.length c2] 69 (0, 0)), (w.heap.size + 1, .cells #[.bool false, .slice none 0 0, .slice none 0 0] 69 (0, 0))] by rw [hW0]; exact ((St.start w).alloc _ _ rfl).alloc _ _ (by simp))
  have HX0 := Lib.hid (show JBox W0 (w.heap.size + 1) from HST0.out.at 1 rfl)
  have HA1 := Lib.hid (h1.on HST0.out.below)
  have HA2 := Lib.hid (h2.on HST0.out.below)
  have HKS := Lib.hid (show ∀ X, Below W0.heap.size W0 X → (fun X => Below W0.heap.size W0 X ∧ X.cell? ⟨w.heap.size, 0, none⟩ = some (.bool b) ∧ X.cell? ⟨w.heap.size, 1, none⟩ = some (.slice A1 l1.length c1) ∧ X.cell? ⟨w.heap.size, 2, none⟩ = some (.slice A2 l2.length c2)) X from fun X hX => ⟨hX, (HST0.out.call hX).cell 0 0 rfl rfl, (HST0.out.call hX).cell 0 1 rfl rfl, (HST0.out.call hX).cell 0 2 rfl rfl⟩)
  have HP1 := Lib.hid (fun W (hb : Below W0.heap.size W0 W) => natPow_any A1 c1 l1 x n 1 W (HA1.out.on hb) hx (by omega) (by omega))
  have HP2 := Lib.hid (fun W (hb : Below W0.heap.size W0 W) => natPow_any A2 c2 l2 y n 1 W (HA2.out.on hb) hy (by omega) (by omega))
  obtain ⟨X, hX⟩ : ∃ X, X = x ^ n := ⟨_, rfl⟩
  obtain ⟨Y, hY⟩ : ∃ Y, Y = y ^ n := ⟨_, rfl⟩
  rw [← hX] at HP1 ⊢
  rw [← hY] at HP2 ⊢
  clear h1 h2 hX hY hx hy
  go_enter Tryz.func121, Tryz.ntmps121
  go_wp2_with fail
  rw [← hW0]
  clear hW0
  refine wp_region_last (init := #[_, _, _, _, _, _, _, _, _]) (last := _) rfl (by kernel_rfl) (by kernel_rfl) (by kernel_rfl) ?_
  show wpAny _ _ _ _ 9 (Array.replicate 9 false) _ _
  refine wpAny_of_held (S := (fun X => Below W0.heap.size W0 X ∧ X.cell? ⟨w.heap.size, 0, none⟩ = some (.bool b) ∧ X.cell? ⟨w.heap.size, 1, none⟩ = some (.slice A1 l1.length c1) ∧ X.cell? ⟨w.heap.size, 2, none⟩ = some (.slice A2 l2.length c2))) _ _ _ _ ?_
  have HS0 := HKS.out _ (Below.refl _ W0).drew
  refine wpAnyH_take (i := 0) (v := ?_) rfl (by kernel_rfl) (by kernel_rfl) (by kernel_rfl) (fun _ _ _ h => h) (Or.inl ⟨by rfl, ?_⟩) HS0 ?_
  rotate_left
  · intro W hW; (try dsimp only at hW); go_simp; try (with_reducible rfl)
  (try simp only [List.getElem_toArray, List.getElem_cons_succ, List.getElem_cons_zero, Act.put, List.setIfInBounds_toArray, List.set_cons_zero, List.set_cons_succ])
  refine wpAnyH_take (i := 1) (v := ?_) rfl (by kernel_rfl) (by kernel_rfl) (by kernel_rfl) (fun _ _ _ h => h) (Or.inl ⟨by rfl, ?_⟩) HS0 ?_
  rotate_left
  · intro W hW; (try dsimp only at hW); go_simp; try (with_reducible rfl)
  (try simp only [List.getElem_toArray, List.getElem_cons_succ, List.getElem_cons_zero, Act.put, List.setIfInBounds_toArray, List.set_cons_zero, List.set_cons_succ])
  refine wpAnyH_take (i := 2) (v := ?_) rfl (by kernel_rfl) (by kernel_rfl) (by kernel_rfl) (fun _ _ _ h => h) (Or.inl ⟨by rfl, ?_⟩) HS0 ?_
  rotate_left
  · intro W hW; (try dsimp only at hW); go_simp; try (with_reducible rfl)
  (try simp only [List.getElem_toArray, List.getElem_cons_succ, List.getElem_cons_zero, Act.put, List.setIfInBounds_toArray, List.set_cons_zero, List.set_cons_succ])
  refine wpAnyH_take (i := 4) (v := ?_) rfl (by kernel_rfl) (by kernel_rfl) (by kernel_rfl) (fun _ _ _ h => h) (Or.inl ⟨by rfl, ?_⟩) HS0 ?_
  rotate_left
  · intro W hW; (try dsimp only at hW); go_simp; try (with_reducible rfl)
  (try simp only [List.getElem_toArray, List.getElem_cons_succ, List.getElem_cons_zero, Act.put, List.setIfInBounds_toArray, List.set_cons_zero, List.set_cons_succ])
  refine wpAnyH_take (i := 5) (v := ?_) rfl (by kernel_rfl) (by kernel_rfl) (by kernel_rfl) (fun _ _ _ h => h) (Or.inl ⟨by rfl, ?_⟩) HS0 ?_
  rotate_left
  · intro W hW; (try dsimp only at hW); go_simp; try (with_reducible rfl)
  (try simp only [List.getElem_toArray, List.getElem_cons_succ, List.getElem_cons_zero, Act.put, List.setIfInBounds_toArray, List.set_cons_zero, List.set_cons_succ])
  refine wpAnyH_take (i := 6) (v := ?_) rfl (by kernel_rfl) (by kernel_rfl) (by kernel_rfl) (fun _ _ _ h => h) (Or.inl ⟨by rfl, ?_⟩) HS0 ?_
  rotate_left
  · intro W hW; (try dsimp only at hW); go_simp; try (with_reducible rfl)
  (try simp only [List.getElem_toArray, List.getElem_cons_succ, List.getElem_cons_zero, Act.put, List.setIfInBounds_toArray, List.set_cons_zero, List.set_cons_succ])
  refine run_one (i := 3) (by kernel_rfl) rfl rfl ?_
  intro K hK
  go_simp
  refine (HP1.out _ HS0.1).mono ?_
  rintro e w7 ⟨A6, c6, l6, rfl, hn6, hb6⟩
  refine hK.out _ _ (HKS.out _ (below_next HS0.1 hb6)) ?_
  clear hK K
  have HSP := HS0
  clear HS0
  intro HS0
  refine run_one (i := 7) (by kernel_rfl) rfl rfl ?_
  intro K hK
  go_simp
  refine (HP2.out _ HS0.1).mono ?_
  rintro e w8 ⟨A7, c7, l7, rfl, hn7, hb7⟩
  refine hK.out _ _ (HKS.out _ (below_next HS0.1 hb7)) ?_
  clear hK K
  have HSP := HS0
  clear HS0
  intro HS0
  refine run_one (i := 8) (by kernel_rfl) rfl rfl ?_
  intro K hK
  go_simp
  refine (jOf_any _ _ _ _ _ _ _ _ w8 (hn6.on hb7) hn7).mono ?_
  rintro e w9 ⟨v9, rfl, hv, hb9⟩
  refine hK.out _ _ (HKS.out _ (below_next HS0.1 hb9)) ?_
  clear hK K
  have HSP := HS0
  clear HS0
  intro HS0
  refine wpAnyH_done (by kernel_rfl) ?_ _
  simp only [LastQ]
  obtain ⟨A8, c8, l8, A9, c9, l9, rfl, hj1, hj2⟩ := hv
  have HF := Lib.hid (fun W (hf : Fr (fun i => i = w.heap.size + 1) w9 W) => jf_ret (HX0.out.on HS0.1) (jf_mk (b := false) hj1 hj2) (below_next HST0.out.below HS0.1) (by omega) hf)
  obtain ⟨k0, k1, k2, z0, z1, z2, hlt⟩ := (HX0.out.on HS0.1).facts
  clear HS0 HSP hj1 hj2
  go_simp
  go_wp2
  refine bodyPost_ret (v := .agg #[.bool false, .slice A8 l8.length c8, .slice A9 l9.length c9]) (by simp [results, Tryz.results121, go_sem, k0, k1, k2]) rfl ⟨_, rfl, HF.out _ (fr3 _ _ _)⟩
end Go.Proofs.YtnapdhfkgfjjfaaGreatDoor

/- Package judge: what L says. Printed by gen_jtrl.py. -/
namespace Go.Proofs.YtnapdhfkgfjjfaaGreatDoor
open Go Go.RowKit Go.Proofs

set_option maxHeartbeats 8000000 in
set_option maxRecDepth 100000 in
theorem jVerdict_any (B : Nat) (u : Value) (b : Bool) (x y K : Nat) (p q r0 r1 : Rat) (w : World) (hT : TrR w B p q r0 r1) (hok : TrOk p q r0 r1) (h : JF w u b x y) (hx : x < W64 ^ K) (hy : y < W64 ^ K) (hK : K ≤ 100000) :
    Calls Tryz.prog 60 #[.pointer (some ⟨B, 0, none⟩), u] w fun e w' => e = .returned (.int .i64 (verT r0 r1 x y)) ∧ Below w.heap.size w w' := by
  obtain ⟨A1, c1, l1, A2, c2, l2, rfl, h1, h2⟩ := h
  obtain ⟨A3, c3, l3, A4, c4, l4, hkA, h3, h4⟩ := hT.k0.get
  obtain ⟨A5, c5, l5, A6, c6, l6, hkB, h5, h6⟩ := hT.k1.get
  have hl1 := h1.len hx
  have hl2 := h2.len hy
  have s3 : frN r0 < W64 ^ 1 := by have := hok.a1; have := hok.a2; unfold W64; omega
  have s4 : r0.den < W64 ^ 1 := by have := hok.a2; unfold W64; omega
  have s5 : frN r1 < W64 ^ 1 := by have := hok.b1; have := hok.b2; unfold W64; omega
  have s6 : r1.den < W64 ^ 1 := by have := hok.b2; unfold W64; omega
  have hl3 := h3.len s3
  have hl4 := h4.len s4
  have hl5 := h5.len s5
  have hl6 := h6.len s6
  obtain ⟨W0, hW0⟩ : ∃ W0, W0 = w.alloc (.cells #[.bool b, .slice A1 l1.length c1, .slice A2 l2.length c2] 69) := ⟨_, rfl⟩
  have HST0 := Lib.hid (show St w W0 [(w.heap.size, .cells #[.bool b, .slice A1 l1.length c1, .slice A2 l2.length c2] 69 (0, 0))] by rw [hW0]; exact (St.start w).alloc _ _ rfl)
  have HKS := Lib.hid (show ∀ X, Below W0.heap.size W0 X → (fun X => Below W0.heap.size W0 X ∧ X.cell? ⟨w.heap.size, 1, none⟩ = some (.slice A1 l1.length c1) ∧ X.cell? ⟨w.heap.size, 2, none⟩ = some (.slice A2 l2.length c2) ∧ X.cell? ⟨B, 7, none⟩ = some (.slice A3 l3.length c3) ∧ X.cell? ⟨B, 8, none⟩ = some (.slice A4 l4.length c4) ∧ X.cell? ⟨B, 10, none⟩ = some (.slice A5 l5.length c5) ∧ X.cell? ⟨B, 11, none⟩ = some (.slice A6 l6.length c6)) X from fun X hX => ⟨hX, (HST0.out.call hX).cell 0 1 rfl rfl, (HST0.out.call hX).cell 0 2 rfl rfl, (hkA X (below_next HST0.out.below hX)).2.1, (hkA X (below_next HST0.out.below hX)).2.2, (hkB X (below_next HST0.out.below hX)).2.1, (hkB X (below_next HST0.out.below hX)).2.2⟩)
  have HM1 := Lib.hid (fun W (hb : Below W0.heap.size W0 W) => natMul_any A1 A3 c1 c3 l1 l3 x (frN r0) W (h1.on (below_next HST0.out.below hb)) (h3.on (below_next HST0.out.below hb)) (by omega) (by omega))
  have HM2 := Lib.hid (fun W (hb : Below W0.heap.size W0 W) => natMul_any A2 A4 c2 c4 l2 l4 y r0.den W (h2.on (below_next HST0.out.below hb)) (h4.on (below_next HST0.out.below hb)) (by omega) (by omega))
  have HM3 := Lib.hid (fun W (hb : Below W0.heap.size W0 W) => natMul_any A1 A6 c1 c6 l1 l6 x r1.den W (h1.on (below_next HST0.out.below hb)) (h6.on (below_next HST0.out.below hb)) (by omega) (by omega))
  have HM4 := Lib.hid (fun W (hb : Below W0.heap.size W0 W) => natMul_any A2 A5 c2 c5 l2 l5 y (frN r1) W (h2.on (below_next HST0.out.below hb)) (h5.on (below_next HST0.out.below hb)) (by omega) (by omega))
  have hm := fun (s t : Nat) (hs : s < W64 ^ K) (ht : t < W64 ^ 1) => W64_mul hs ht
  have HCM := Lib.hid (fun (s t : Nat) (hs : s < W64 ^ (K + 1)) (ht : t < W64 ^ (K + 1)) W A A' c c' l l' (g : NatR W A c l s) (g' : NatR W A' c' l' t) => (natCmp_any A A' c c' l l' s t W g g' (by have := g.len hs; omega) (by have := g'.len ht; omega)).mono (R' := fun e w' => e = .returned (.int .i64 (cmpN s t)) ∧ Below W.heap.size W w') fun e w' ⟨he, q, hq⟩ => ⟨he, by rw [hq]; exact below_drewN (Below.refl _ _) q⟩)
  have HC1 := Lib.hid (HCM.out _ _ (hm _ _ hx s3) (hm _ _ hy s4))
  have HC2 := Lib.hid (HCM.out _ _ (hm _ _ hx s6) (hm _ _ hy s5))
  have e1 := geT (x * frN r0) (y * r0.den)
  have e2 := leT (x * r1.den) (y * frN r1)
  have hV1 := Lib.hid (show decide (y * r0.den ≤ x * frN r0) = true → verT r0 r1 x y = 2 from fun hh => by unfold verT hiT; rw [hh]; rfl)
  have hV2 := Lib.hid (show decide (y * r0.den ≤ x * frN r0) = false → decide (x * r1.den ≤ y * frN r1) = true → verT r0 r1 x y = 1 from fun hh hg => by unfold verT hiT loT; rw [hh, hg]; rfl)
  have hV3 := Lib.hid (show decide (y * r0.den ≤ x * frN r0) = false → decide (x * r1.den ≤ y * frN r1) = false → verT r0 r1 x y = 3 from fun hh hg => by unfold verT hiT loT; rw [hh, hg]; rfl)
  rw [← e1] at hV1 hV2 hV3
  rw [← e2] at hV2 hV3
  obtain ⟨V, hV⟩ : ∃ V, V = verT r0 r1 x y := ⟨_, rfl⟩
  rw [← hV] at hV1 hV2 hV3 ⊢
  obtain ⟨k1, hk1⟩ : ∃ k, k = cmpN (x * frN r0) (y * r0.den) := ⟨_, rfl⟩
  obtain ⟨k2, hk2⟩ : ∃ k, k = cmpN (x * r1.den) (y * frN r1) := ⟨_, rfl⟩
  rw [← hk1] at hV1 hV2 hV3 HC1
  rw [← hk2] at hV2 hV3 HC2
  obtain ⟨t1, ht1⟩ : ∃ t, t = decide (0 ≤ k1) := ⟨_, rfl⟩
  obtain ⟨t2, ht2⟩ : ∃ t, t = decide (k2 ≤ 0) := ⟨_, rfl⟩
  rw [← ht1] at hV1 hV2 hV3
  rw [← ht2] at hV2 hV3
  have e3 := ht1.symm
  have e4 := ht2.symm
  clear ht1 ht2
  clear hkA hkB hV hk1 hk2 e1 e2 hm hT hok h1 h2 h3 h4 h5 h6 hx hy s3 s4 s5 s6 hl1 hl2 hl3 hl4 hl5 hl6 HCM
  go_enter Tryz.func60, Tryz.ntmps60
  go_upto_region 1 with fail
  rw [← hW0]
  clear hW0
  go_region_held3 (fun X => Below W0.heap.size W0 X ∧ X.cell? ⟨w.heap.size, 1, none⟩ = some (.slice A1 l1.length c1) ∧ X.cell? ⟨w.heap.size, 2, none⟩ = some (.slice A2 l2.length c2) ∧ X.cell? ⟨B, 7, none⟩ = some (.slice A3 l3.length c3) ∧ X.cell? ⟨B, 8, none⟩ = some (.slice A4 l4.length c4) ∧ X.cell? ⟨B, 10, none⟩ = some (.slice A5 l5.length c5) ∧ X.cell? ⟨B, 11, none⟩ = some (.slice A6 l6.length c6))
    (first
      | exact HKS.out _ (Below.refl _ W0).drew
      | (go_split_ands; refine HKS.out _ (below_next ?_ hb14); assumption)
      | (go_split_ands; refine HKS.out _ (below_next ?_ hb15); assumption)
      | (go_split_ands; refine HKS.out _ (below_next ?_ hb16); assumption))
    (first
      | (go_at_call 72; (with_reducible refine (HM1.out _ (by go_split_ands; assumption)).mono ?_); rintro e w14 ⟨A14, c14, l14, rfl, hn14, hb14⟩)
      | (go_at_call 72; (with_reducible refine (HM2.out _ (by go_split_ands; assumption)).mono ?_); rintro e w15 ⟨A15, c15, l15, rfl, hn15, hb15⟩)
      | (go_at_call 77; (with_reducible refine (HC1.out w15 _ _ _ _ _ _ (hn14.on hb15) hn15).mono ?_); rintro e w16 ⟨rfl, hb16⟩))
  have hbl : Below W0.heap.size W0 w16 := by go_split_ands; assumption
  have HB8 := Lib.hid hbl
  clear hbl hn14 hn15 hb14 hb15 hb16
  cases t1 with
  | true =>
    have hv := hV1.out (by first | rfl | trivial)
    subst hv
    have HBF := Lib.hid (below_next HST0.out.below HB8.out)
    go_wp2
    go_ret
    exact ⟨rfl, HBF.out⟩
  | false =>
    have HKS2 := Lib.hid (show ∀ X, Below w16.heap.size w16 X → (fun X => Below w16.heap.size w16 X ∧ X.cell? ⟨w.heap.size, 1, none⟩ = some (.slice A1 l1.length c1) ∧ X.cell? ⟨w.heap.size, 2, none⟩ = some (.slice A2 l2.length c2) ∧ X.cell? ⟨B, 7, none⟩ = some (.slice A3 l3.length c3) ∧ X.cell? ⟨B, 8, none⟩ = some (.slice A4 l4.length c4) ∧ X.cell? ⟨B, 10, none⟩ = some (.slice A5 l5.length c5) ∧ X.cell? ⟨B, 11, none⟩ = some (.slice A6 l6.length c6)) X from fun X hX => ⟨hX, (HKS.out X (below_next HB8.out hX)).2⟩)
    go_upto_region 1 with fail
    go_region_held3 (fun X => Below w16.heap.size w16 X ∧ X.cell? ⟨w.heap.size, 1, none⟩ = some (.slice A1 l1.length c1) ∧ X.cell? ⟨w.heap.size, 2, none⟩ = some (.slice A2 l2.length c2) ∧ X.cell? ⟨B, 7, none⟩ = some (.slice A3 l3.length c3) ∧ X.cell? ⟨B, 8, none⟩ = some (.slice A4 l4.length c4) ∧ X.cell? ⟨B, 10, none⟩ = some (.slice A5 l5.length c5) ∧ X.cell? ⟨B, 11, none⟩ = some (.slice A6 l6.length c6))
      (first
        | exact HKS2.out _ (Below.refl _ w16).drew
        | (go_split_ands; refine HKS2.out _ (below_next ?_ hb18); assumption)
        | (go_split_ands; refine HKS2.out _ (below_next ?_ hb19); assumption)
        | (go_split_ands; refine HKS2.out _ (below_next ?_ hb20); assumption))
      (first
        | (go_at_call 72; (with_reducible refine (HM3.out _ (below_next HB8.out (by go_split_ands; assumption))).mono ?_); rintro e w18 ⟨A18, c18, l18, rfl, hn18, hb18⟩)
        | (go_at_call 72; (with_reducible refine (HM4.out _ (below_next HB8.out (by go_split_ands; assumption))).mono ?_); rintro e w19 ⟨A19, c19, l19, rfl, hn19, hb19⟩)
        | (go_at_call 77; (with_reducible refine (HC2.out w19 _ _ _ _ _ _ (hn18.on hb19) hn19).mono ?_); rintro e w20 ⟨rfl, hb20⟩))
    have hbl : Below w16.heap.size w16 w20 := by go_split_ands; assumption
    have HBF := Lib.hid (below_next HST0.out.below (below_next HB8.out hbl))
    clear hbl hn18 hn19 hb18 hb19 hb20
    cases t2 with
    | true =>
      have hv := hV2.out (by first | rfl | trivial) (by first | rfl | trivial)
      subst hv
      go_wp2
      go_ret
      exact ⟨rfl, HBF.out⟩
    | false =>
      have hv := hV3.out (by first | rfl | trivial) (by first | rfl | trivial)
      subst hv
      go_wp2
      go_ret
      exact ⟨rfl, HBF.out⟩
end Go.Proofs.YtnapdhfkgfjjfaaGreatDoor
