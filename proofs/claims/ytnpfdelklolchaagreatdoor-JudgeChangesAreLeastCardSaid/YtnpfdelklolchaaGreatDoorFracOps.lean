/- Package dynamometerref0: fractions: Part, Whole, Minus, Plus, Less, Times, Sign, Order, Floor. Printed by gen_frac.py. -/
import Derived.Test.YtnpfdelklolchaaGreatDoorG19
import Derived.Test.YtnpfdelklolchaaGreatDoorG14
namespace Go.Proofs.YtnpfdelklolchaaGreatDoor
open Go Go.RowKit Go.Proofs

theorem frac_ret2 {w0 w W : World} {B : Nat} {v : Value} {q : Rat} (hB : FBox w B) (h : FracR w v q) (hbl : Below w0.heap.size w0 w) (h0 : w0.heap.size ≤ B) (hf : Fr (fun i => i = B) w W) : FracR W v q ∧ Below w0.heap.size w0 W := by
  obtain ⟨A1, c1, l1, A2, c2, l2, rfl, h1, h2⟩ := h
  exact frac_ret hB rfl h1 h2 hbl h0 hf
theorem T4_5 : T4 ^ 5 = 100000000000000000000 := by unfold T4; rfl
theorem of_len {w : World} {A : Option Addr} {c : Nat} {l : List Nat} {x : Nat} (h : RNatR w A c l x) (hx : x ≤ 9223372036854775807) : l.length ≤ 5 := h.len (by rw [T4_5]; omega)
set_option maxHeartbeats 2000000 in
set_option maxRecDepth 100000 in
theorem rPart_any (n d : Int) (w : World) (h0 : -9223372036854775807 ≤ n) (h1 : n ≤ 9223372036854775807) (hd0 : 1 ≤ d) (hd : d ≤ 9223372036854775807) :
    Calls Tryz.prog 39 #[.int .i64 n, .int .i64 d] w (FracPost (mkRat n d.toNat) w) := by
  have HD := Lib.hid (fun W => rnatOf_any d W hd)
  obtain ⟨W0, hW0⟩ : ∃ W0, W0 = w.alloc (.cells #[.bool false, .slice none 0 0, .slice none 0 0] 31) := ⟨_, rfl⟩
  have HB0 := Lib.hid (show Below w.heap.size w W0 by rw [hW0]; exact (Below.refl _ w).alloc (Nat.le_refl _) _)
  have HX0 := Lib.hid (show FBox W0 w.heap.size by rw [hW0]; exact alloc_at _ _ _ rfl)

  by_cases hn : n < 0
  · have t1 : decide (n < 0) = true := by simpa using hn

    have HN := Lib.hid (fun W => rnatOf_any (-n) W (by omega))
    have HL := Lib.hid (fun W A1 c1 l1 A2 c2 l2 (h1 : RNatR W A1 c1 l1 ((-n) : Int).toNat) (h2 : RNatR W A2 c2 l2 d.toNat) => rLowest_any true A1 A2 c1 c2 l1 l2 _ _ W h1 h2 (by have := of_len h1 (by omega); omega) (by have := of_len h2 (by omega); omega) (by omega))
    have hsg : sg true ((-n) : Int).toNat = n := by unfold sg; simp; omega
    rw [hsg] at HL
    clear hsg
    go_enter Tryz.func39, Tryz.ntmps39
    go_wp2_with fail
    rw [← hW0]
    clear hW0
    refine (HN.out _).mono ?_
    rintro e w1 ⟨A1, c1, l1, rfl, hn1, hb1⟩
    have HN1 := Lib.hid hn1
    have HB1 := Lib.hid hb1
    clear hn1 hb1
    go_wp2_with fail
    refine (HD.out _).mono ?_
    rintro e w2 ⟨A2, c2, l2, rfl, hn2, hb2⟩
    have HL2 := Lib.hid (HL.out w2 A1 c1 l1 A2 c2 l2 (HN1.out.on hb2) hn2)
    have HB2 := Lib.hid (below_next HB1.out hb2)
    clear hn2 hb2
    go_wp2_with fail
    refine HL2.out.mono ?_
    rintro e w3 ⟨v, rfl, hv, hb3⟩
    have hb3' := below_next HB2.out hb3
    have HF := Lib.hid (fun W (hf : Fr (fun i => i = w.heap.size) w3 W) => frac_ret2 (HX0.out.on hb3') hv (below_next HB0.out hb3') (Nat.le_refl _) hf)
    obtain ⟨k0, k1, k2, z0, z1, z2, hlt⟩ := (HX0.out.on hb3').facts
    obtain ⟨A5, c5, l5, A6, c6, l6, rfl, _, _⟩ := hv
    clear hb3 hb3'
    go_wp2
    refine bodyPost_ret (v := .agg #[.bool _, .slice A5 l5.length c5, .slice A6 l6.length c6]) (by simp [results, Tryz.results39, go_sem, k0, k1, k2]) rfl ⟨_, rfl, HF.out _ (fr3 _ _ _)⟩

  · have t1 : decide (n < 0) = false := by simpa using hn

    have HN := Lib.hid (fun W => rnatOf_any n W (by omega))
    have HL := Lib.hid (fun W A1 c1 l1 A2 c2 l2 (h1 : RNatR W A1 c1 l1 (n : Int).toNat) (h2 : RNatR W A2 c2 l2 d.toNat) => rLowest_any false A1 A2 c1 c2 l1 l2 _ _ W h1 h2 (by have := of_len h1 (by omega); omega) (by have := of_len h2 (by omega); omega) (by omega))
    have hsg : sg false (n : Int).toNat = n := by unfold sg; simp; omega
    rw [hsg] at HL
    clear hsg
    go_enter Tryz.func39, Tryz.ntmps39
    go_wp2_with fail
    rw [← hW0]
    clear hW0
    refine (HN.out _).mono ?_
    rintro e w1 ⟨A1, c1, l1, rfl, hn1, hb1⟩
    have HN1 := Lib.hid hn1
    have HB1 := Lib.hid hb1
    clear hn1 hb1
    go_wp2_with fail
    refine (HD.out _).mono ?_
    rintro e w2 ⟨A2, c2, l2, rfl, hn2, hb2⟩
    have HL2 := Lib.hid (HL.out w2 A1 c1 l1 A2 c2 l2 (HN1.out.on hb2) hn2)
    have HB2 := Lib.hid (below_next HB1.out hb2)
    clear hn2 hb2
    go_wp2_with fail
    refine HL2.out.mono ?_
    rintro e w3 ⟨v, rfl, hv, hb3⟩
    have hb3' := below_next HB2.out hb3
    have HF := Lib.hid (fun W (hf : Fr (fun i => i = w.heap.size) w3 W) => frac_ret2 (HX0.out.on hb3') hv (below_next HB0.out hb3') (Nat.le_refl _) hf)
    obtain ⟨k0, k1, k2, z0, z1, z2, hlt⟩ := (HX0.out.on hb3').facts
    obtain ⟨A5, c5, l5, A6, c6, l6, rfl, _, _⟩ := hv
    clear hb3 hb3'
    go_wp2
    refine bodyPost_ret (v := .agg #[.bool _, .slice A5 l5.length c5, .slice A6 l6.length c6]) (by simp [results, Tryz.results39, go_sem, k0, k1, k2]) rfl ⟨_, rfl, HF.out _ (fr3 _ _ _)⟩

set_option maxHeartbeats 2000000 in
set_option maxRecDepth 100000 in
theorem rWhole_any (n : Int) (w : World) (h0 : -9223372036854775807 ≤ n) (h1 : n ≤ 9223372036854775807) :
    Calls Tryz.prog 37 #[.int .i64 n] w (FracPost (n : Rat) w) := by
  have HP := Lib.hid (fun W => rPart_any n 1 W h0 h1 (by omega) (by omega))
  rw [show mkRat n (1 : Int).toNat = (n : Rat) from Rat.mkRat_self (n : Rat)] at HP
  obtain ⟨W0, hW0⟩ : ∃ W0, W0 = w.alloc (.cells #[.bool false, .slice none 0 0, .slice none 0 0] 31) := ⟨_, rfl⟩
  have HB0 := Lib.hid (show Below w.heap.size w W0 by rw [hW0]; exact (Below.refl _ w).alloc (Nat.le_refl _) _)
  have HX0 := Lib.hid (show FBox W0 w.heap.size by rw [hW0]; exact alloc_at _ _ _ rfl)
  go_enter Tryz.func37, Tryz.ntmps37
  go_wp2_with fail
  rw [← hW0]
  clear hW0
  refine (HP.out _).mono ?_
  rintro e w3 ⟨v, rfl, hv, hb3'⟩
  have HF := Lib.hid (fun W (hf : Fr (fun i => i = w.heap.size) w3 W) => frac_ret2 (HX0.out.on hb3') hv (below_next HB0.out hb3') (Nat.le_refl _) hf)
  obtain ⟨k0, k1, k2, z0, z1, z2, hlt⟩ := (HX0.out.on hb3').facts
  obtain ⟨A5, c5, l5, A6, c6, l6, rfl, _, _⟩ := hv
  clear hb3'
  go_wp2
  refine bodyPost_ret (v := .agg #[.bool _, .slice A5 l5.length c5, .slice A6 l6.length c6]) (by simp [results, Tryz.results37, go_sem, k0, k1, k2]) rfl ⟨_, rfl, HF.out _ (fr3 _ _ _)⟩

set_option maxHeartbeats 4000000 in
set_option maxRecDepth 100000 in
theorem rTimes_any (n : Nat) (u v : Value) (a b : Rat) (w : World) (hn : n ≤ 400000) (ha : FracR w u a) (hb : FracR w v b) (hsa : Sz n a) (hsb : Sz n b) :
    Calls Tryz.prog 41 #[u, v] w (FracPost (a * b) w) := by
  obtain ⟨A1, c1, l1, A2, c2, l2, rfl, ha1, ha2⟩ := ha
  obtain ⟨A3, c3, l3, A4, c4, l4, rfl, hb1, hb2⟩ := hb
  have la1 := ha1.len hsa.1
  have la2 := ha2.len hsa.2
  have lb1 := hb1.len hsb.1
  have lb2 := hb2.len hsb.2
  obtain ⟨W0, hW0⟩ : ∃ W0, W0 = ((w.alloc (.cells #[.bool (frS a), .slice A1 l1.length c1, .slice A2 l2.length c2] 31)).alloc (.cells #[.bool (frS b), .slice A3 l3.length c3, .slice A4 l4.length c4] 31)).alloc (.cells #[.bool false, .slice none 0 0, .slice none 0 0] 31) := ⟨_, rfl⟩
  have HST0 := Lib.hid (show St w W0 [(w.heap.size, .cells #[.bool (frS a), .slice A1 l1.length c1, .slice A2 l2.length c2] 31 (0, 0)), (w.heap.size + 1, .cells #[.bool (frS b), .slice A3 l3.length c3, .slice A4 l4.length c4] 31 (0, 0)), (w.heap.size + 1 + 1, .cells #[.bool false, .slice none 0 0, .slice none 0 0] 31 (0, 0))] by rw [hW0]; exact (((St.start w).alloc _ _ rfl).alloc _ _ (by simp)).alloc _ _ (by simp))
  have hs0 : W0.heap.size = w.heap.size + 3 := by rw [hW0]; simp
  have HX0 := Lib.hid (show FBox W0 (w.heap.size + 1 + 1) from HST0.out.at 2 rfl)
  have HA1 := Lib.hid (ha1.on HST0.out.below)
  have HA2 := Lib.hid (ha2.on HST0.out.below)
  have HA3 := Lib.hid (hb1.on HST0.out.below)
  have HA4 := Lib.hid (hb2.on HST0.out.below)
  have HM1 := Lib.hid (fun W (hb : Below W0.heap.size W0 W) => rnatMul_any A1 A3 c1 c3 l1 l3 _ _ W (HA1.out.on hb) (HA3.out.on hb) (by omega) (by omega))
  have HM2 := Lib.hid (fun W (hb : Below W0.heap.size W0 W) => rnatMul_any A2 A4 c2 c4 l2 l4 _ _ W (HA2.out.on hb) (HA4.out.on hb) (by omega) (by omega))
  have hd : 0 < a.den * b.den := Nat.mul_pos a.den_pos b.den_pos
  have HL := Lib.hid (fun W A5 c5 l5 A6 c6 l6 (h5 : RNatR W A5 c5 l5 (frN a * frN b)) (h6 : RNatR W A6 c6 l6 (a.den * b.den)) => rLowest_any (!(frS a == frS b)) A5 A6 c5 c6 l5 l6 _ _ W h5 h6 (by have := h5.len (n := n + n) (by rw [Nat.pow_add]; exact Nat.mul_lt_mul'' hsa.1 hsb.1); omega) (by have := h6.len (n := n + n) (by rw [Nat.pow_add]; exact Nat.mul_lt_mul'' hsa.2 hsb.2); omega) hd)
  rw [show mkRat (sg (!(frS a == frS b)) (frN a * frN b)) (a.den * b.den) = a * b from times_eq a b] at HL
  clear ha1 ha2 hb1 hb2 hd hsa hsb
  go_enter Tryz.func41, Tryz.ntmps41
  go_wp2_with fail
  rw [← hW0]
  clear hW0
  have HB := Lib.hid (Below.refl W0.heap.size W0)
  have HKS := Lib.hid (show ∀ X, Below W0.heap.size W0 X → (fun X => Below W0.heap.size W0 X ∧ X.cell? ⟨w.heap.size, 0, none⟩ = some (.bool (frS a)) ∧ X.cell? ⟨w.heap.size, 1, none⟩ = some (.slice A1 l1.length c1) ∧ X.cell? ⟨w.heap.size, 2, none⟩ = some (.slice A2 l2.length c2) ∧ X.cell? ⟨w.heap.size + 1, 0, none⟩ = some (.bool (frS b)) ∧ X.cell? ⟨w.heap.size + 1, 1, none⟩ = some (.slice A3 l3.length c3) ∧ X.cell? ⟨w.heap.size + 1, 2, none⟩ = some (.slice A4 l4.length c4)) X from fun X hX => ⟨hX, (HST0.out.call (below_next HB.out hX)).cell 0 0 rfl rfl, (HST0.out.call (below_next HB.out hX)).cell 0 1 rfl rfl, (HST0.out.call (below_next HB.out hX)).cell 0 2 rfl rfl, (HST0.out.call (below_next HB.out hX)).cell 1 0 rfl rfl, (HST0.out.call (below_next HB.out hX)).cell 1 1 rfl rfl, (HST0.out.call (below_next HB.out hX)).cell 1 2 rfl rfl⟩)
  refine wp_region_last (init := #[_, _, _, _, _, _, _, _, _, _, _, _, _, _, _, _]) (last := _) rfl (by kernel_rfl) (by kernel_rfl) (by kernel_rfl) ?_
  show wpAny _ _ _ _ 16 (Array.replicate 16 false) _ _
  refine wpAny_of_held (S := (fun X => Below W0.heap.size W0 X ∧ X.cell? ⟨w.heap.size, 0, none⟩ = some (.bool (frS a)) ∧ X.cell? ⟨w.heap.size, 1, none⟩ = some (.slice A1 l1.length c1) ∧ X.cell? ⟨w.heap.size, 2, none⟩ = some (.slice A2 l2.length c2) ∧ X.cell? ⟨w.heap.size + 1, 0, none⟩ = some (.bool (frS b)) ∧ X.cell? ⟨w.heap.size + 1, 1, none⟩ = some (.slice A3 l3.length c3) ∧ X.cell? ⟨w.heap.size + 1, 2, none⟩ = some (.slice A4 l4.length c4))) _ _ _ _ ?_
  have HS0 := HKS.out _ (Below.refl _ W0).drew
  refine wpAnyH_take (i := 0) (v := ?_) rfl (by kernel_rfl) (by kernel_rfl) (by kernel_rfl) (fun _ _ _ h => h) (Or.inl ⟨by rfl, ?_⟩) HS0 ?_
  rotate_left
  · intro W hW; (try dsimp only at hW); go_simp; try (with_reducible rfl)
  (try simp only [List.getElem_toArray, List.getElem_cons_zero, Act.put, List.setIfInBounds_toArray, List.set_cons_zero, List.set_cons_succ])
  refine wpAnyH_take (i := 1) (v := ?_) rfl (by kernel_rfl) (by kernel_rfl) (by kernel_rfl) (fun _ _ _ h => h) (Or.inl ⟨by rfl, ?_⟩) HS0 ?_
  rotate_left
  · intro W hW; (try dsimp only at hW); go_simp; try (with_reducible rfl)
  (try simp only [List.getElem_toArray, List.getElem_cons_succ, List.getElem_cons_zero, Act.put, List.setIfInBounds_toArray, List.set_cons_zero, List.set_cons_succ])
  refine wpAnyH_take (i := 2) (v := ?_) rfl (by kernel_rfl) (by kernel_rfl) (by kernel_rfl) (fun _ _ _ h => h) (Or.inl ⟨by rfl, ?_⟩) HS0 ?_
  rotate_left
  · intro W hW; (try dsimp only at hW); go_simp; try (with_reducible rfl)
  (try simp only [List.getElem_toArray, List.getElem_cons_succ, List.getElem_cons_zero, Act.put, List.setIfInBounds_toArray, List.set_cons_zero, List.set_cons_succ])
  refine wpAnyH_take (i := 3) (v := ?_) rfl (by kernel_rfl) (by kernel_rfl) (by kernel_rfl) (fun _ _ _ h => h) (Or.inl ⟨by rfl, ?_⟩) HS0 ?_
  rotate_left
  · intro W hW; (try dsimp only at hW); go_simp; try (with_reducible rfl)
  (try simp only [List.getElem_toArray, List.getElem_cons_succ, List.getElem_cons_zero, Act.put, List.setIfInBounds_toArray, List.set_cons_zero, List.set_cons_succ])
  refine wpAnyH_take (i := 4) (v := ?_) rfl (by kernel_rfl) (by kernel_rfl) (by kernel_rfl) (fun _ _ _ h => h) (Or.inl ⟨by rfl, ?_⟩) HS0 ?_
  rotate_left
  · intro W hW; (try dsimp only at hW); go_simp; try (with_reducible rfl)
  (try simp only [List.getElem_toArray, List.getElem_cons_succ, List.getElem_cons_zero, Act.put, List.setIfInBounds_toArray, List.set_cons_zero, List.set_cons_succ])
  refine wpAnyH_take (i := 5) (v := ?_) rfl (by kernel_rfl) (by kernel_rfl) (by kernel_rfl) (fun _ _ _ h => h) (Or.inl ⟨by rfl, ?_⟩) HS0 ?_
  rotate_left
  · intro W hW; (try dsimp only at hW); go_simp; try (with_reducible rfl)
  (try simp only [List.getElem_toArray, List.getElem_cons_succ, List.getElem_cons_zero, Act.put, List.setIfInBounds_toArray, List.set_cons_zero, List.set_cons_succ])
  refine wpAnyH_take (i := 6) (v := ?_) rfl (by kernel_rfl) (by kernel_rfl) (by kernel_rfl) (fun _ _ _ h => h) (Or.inl ⟨by rfl, ?_⟩) HS0 ?_
  rotate_left
  · intro W hW; (try dsimp only at hW); go_simp; try (with_reducible rfl)
  (try simp only [List.getElem_toArray, List.getElem_cons_succ, List.getElem_cons_zero, Act.put, List.setIfInBounds_toArray, List.set_cons_zero, List.set_cons_succ])
  refine wpAnyH_take (i := 7) (v := ?_) rfl (by kernel_rfl) (by kernel_rfl) (by kernel_rfl) (fun _ _ _ h => h) (Or.inl ⟨by rfl, ?_⟩) HS0 ?_
  rotate_left
  · intro W hW; (try dsimp only at hW); go_simp; try (with_reducible rfl)
  (try simp only [List.getElem_toArray, List.getElem_cons_succ, List.getElem_cons_zero, Act.put, List.setIfInBounds_toArray, List.set_cons_zero, List.set_cons_succ])
  refine wpAnyH_take (i := 8) (v := ?_) rfl (by kernel_rfl) (by kernel_rfl) (by kernel_rfl) (fun _ _ _ h => h) (Or.inl ⟨by rfl, ?_⟩) HS0 ?_
  rotate_left
  · intro W hW; (try dsimp only at hW); go_simp; try (with_reducible rfl)
  (try simp only [List.getElem_toArray, List.getElem_cons_succ, List.getElem_cons_zero, Act.put, List.setIfInBounds_toArray, List.set_cons_zero, List.set_cons_succ])
  refine wpAnyH_take (i := 10) (v := ?_) rfl (by kernel_rfl) (by kernel_rfl) (by kernel_rfl) (fun _ _ _ h => h) (Or.inl ⟨by rfl, ?_⟩) HS0 ?_
  rotate_left
  · intro W hW; (try dsimp only at hW); go_simp; try (with_reducible rfl)
  (try simp only [List.getElem_toArray, List.getElem_cons_succ, List.getElem_cons_zero, Act.put, List.setIfInBounds_toArray, List.set_cons_zero, List.set_cons_succ])
  refine wpAnyH_take (i := 11) (v := ?_) rfl (by kernel_rfl) (by kernel_rfl) (by kernel_rfl) (fun _ _ _ h => h) (Or.inl ⟨by rfl, ?_⟩) HS0 ?_
  rotate_left
  · intro W hW; (try dsimp only at hW); go_simp; try (with_reducible rfl)
  (try simp only [List.getElem_toArray, List.getElem_cons_succ, List.getElem_cons_zero, Act.put, List.setIfInBounds_toArray, List.set_cons_zero, List.set_cons_succ])
  refine wpAnyH_take (i := 12) (v := ?_) rfl (by kernel_rfl) (by kernel_rfl) (by kernel_rfl) (fun _ _ _ h => h) (Or.inl ⟨by rfl, ?_⟩) HS0 ?_
  rotate_left
  · intro W hW; (try dsimp only at hW); go_simp; try (with_reducible rfl)
  (try simp only [List.getElem_toArray, List.getElem_cons_succ, List.getElem_cons_zero, Act.put, List.setIfInBounds_toArray, List.set_cons_zero, List.set_cons_succ])
  refine wpAnyH_take (i := 13) (v := ?_) rfl (by kernel_rfl) (by kernel_rfl) (by kernel_rfl) (fun _ _ _ h => h) (Or.inl ⟨by rfl, ?_⟩) HS0 ?_
  rotate_left
  · intro W hW; (try dsimp only at hW); go_simp; try (with_reducible rfl)
  (try simp only [List.getElem_toArray, List.getElem_cons_succ, List.getElem_cons_zero, Act.put, List.setIfInBounds_toArray, List.set_cons_zero, List.set_cons_succ])
  refine run_one (i := 9) (by kernel_rfl) rfl rfl ?_
  intro K hK
  go_simp
  refine (HM1.out _ HS0.1).mono ?_
  rintro e w5 ⟨A5, c5, l5, rfl, hn5, hb5⟩
  refine hK.out _ _ (HKS.out _ (below_next HS0.1 hb5)) ?_
  clear hK K
  have HSP := HS0
  clear HS0
  intro HS0
  refine run_one (i := 14) (by kernel_rfl) rfl rfl ?_
  intro K hK
  go_simp
  refine (HM2.out _ HS0.1).mono ?_
  rintro e w6 ⟨A6, c6, l6, rfl, hn6, hb6⟩
  refine hK.out _ _ (HKS.out _ (below_next HS0.1 hb6)) ?_
  clear hK K
  have HSP := HS0
  clear HS0
  intro HS0
  refine run_one (i := 15) (by kernel_rfl) rfl rfl ?_
  intro K hK
  go_simp
  refine (HL.out _ A5 c5 l5 A6 c6 l6 (hn5.on hb6) hn6).mono ?_
  rintro e w7 ⟨v7, rfl, hv7, hb7⟩
  refine hK.out _ _ (HKS.out _ (below_next HS0.1 hb7)) ?_
  clear hK K
  have HSP := HS0
  clear HS0
  intro HS0
  refine wpAnyH_done (by kernel_rfl) ?_ _
  simp only [LastQ]
  have HF := Lib.hid (fun W (hf : Fr (fun i => i = w.heap.size + 1 + 1) w7 W) => frac_ret2 (HX0.out.on HS0.1) hv7 (below_next HST0.out.below HS0.1) (by omega) hf)
  obtain ⟨k0, k1, k2, z0, z1, z2, hlt⟩ := (HX0.out.on HS0.1).facts
  obtain ⟨A8, c8, l8, A9, c9, l9, rfl, _, _⟩ := hv7
  clear HS0 hb5 hb6 hb7 hn5 hn6
  go_simp
  go_wp2
  refine bodyPost_ret (v := .agg #[.bool (frS (a * b)), .slice A8 l8.length c8, .slice A9 l9.length c9]) (by simp [results, Tryz.results41, go_sem, k0, k1, k2]) rfl ⟨_, rfl, HF.out _ (fr3 _ _ _)⟩

end Go.Proofs.YtnpfdelklolchaaGreatDoor
