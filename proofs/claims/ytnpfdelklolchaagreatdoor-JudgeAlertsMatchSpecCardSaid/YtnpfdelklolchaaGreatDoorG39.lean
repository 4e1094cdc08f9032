import Derived.Test.YtnpfdelklolchaaGreatDoorG38
/- slices.symMergeCmpFunc at alerts where the first part has one element. Printed by gen_stsym.py. -/
namespace Go.Proofs.YtnpfdelklolchaaGreatDoor
open Go Go.RowKit Go.Proofs

set_option maxHeartbeats 8000000 in
set_option maxRecDepth 100000 in
theorem stSymL_any (g c a m b : Nat) (l : List Al) (w : World) (h : RowA w g l) (ham : m = a + 1) (hmb : m < b) (hb : b ≤ l.length) (hl : l.length ≤ 1000000) (hok : OkA l) (hs : SrtOn ltA l m b) :
    Calls Tryz.prog 110 #[.slice (some ⟨g, 0, none⟩) l.length c, .int .i64 (a : Int), .int .i64 (m : Int), .int .i64 (b : Int), .func (.func 63) #[] #[]] w fun e w' => e = .returned (.tuple #[]) ∧ ∃ l', RowA w' g l' ∧ PermOn l l' a b ∧ SrtOn ltA l' a b ∧ Fr (fun q => q = g) w w' := by
  have H0 := Lib.hid h
  have HOK := Lib.hid hok
  have mixed : Tryz.prog.follows Departure.mixedOrders = true := by kernel_rfl
  have hw0 : IntKind.i64.wrap ((m : Int) - (a : Int)) = 1 := by rw [IntWalk.i64_in _ (by omega)]; omega
  have HM := Lib.hid ham
  have HS := Lib.hid hs
  obtain ⟨x, hla⟩ : ∃ x, l[a]? = some x := ⟨_, List.getElem?_eq_getElem (by omega)⟩
  have ham' : a < m := by omega
  clear h hok ham hs
  go_enter Tryz.func110, Tryz.ntmps110
  go_wp2
  go_loopw [10, 11] (fun iv jv wr => ∃ i j : Nat, iv = .int .i64 (i : Int) ∧ jv = .int .i64 (j : Int) ∧ m ≤ i ∧ i ≤ j ∧ j ≤ b ∧ (m < i → ∀ z, l[i - 1]? = some z → ltA z x) ∧ (j < b → ∀ z, l[j]? = some z → ltA x z) ∧ RowA wr g l ∧ Fr (fun q => q = g) w wr) (fun iv jv _ => (intOf jv).toNat - (intOf iv).toNat)
  case atStart => exact ⟨m, b, rfl, rfl, Nat.le_refl _, by omega, Nat.le_refl _, fun h => absurd h (Nat.lt_irrefl _), fun h => absurd h (Nat.lt_irrefl _), H0.out, Fr.refl _ _⟩
  case round =>
    obtain ⟨i, j, rfl, rfl, hi, hij, hj, hg1, hg2, hrow, hfr⟩ := hrel
    have HG1 := Lib.hid hg1
    have HG2 := Lib.hid hg2
    have HR := Lib.hid hrow
    have HF := Lib.hid hfr
    clear hg1 hg2 hrow hfr H0
    by_cases hlt : i < j
    · have hltz : (i : Int) < (j : Int) := by omega
      obtain ⟨wj, rfl⟩ : ∃ W : World, W = wr := ⟨_, rfl⟩
      obtain ⟨q, hq⟩ : ∃ q, q = (i + j) / 2 := ⟨_, rfl⟩
      have hh : ((i : Int) + (j : Int)) / 2 = (q : Int) := by omega
      have hq1 : i ≤ q := by omega
      have hq2 : q < j := by omega
      clear hq
      obtain ⟨y, hlq⟩ : ∃ y, l[q]? = some y := ⟨_, List.getElem?_eq_getElem (by omega)⟩
      have HKS5 := Lib.hid (show ∀ X, Below wj.heap.size wj X → (fun X => Below wj.heap.size wj X ∧ X.cell? ⟨g, q * 3, none⟩ = some (.int .i64 y.1) ∧ X.cell? ⟨g, q * 3 + 1, none⟩ = some (.int .i64 y.2.1) ∧ X.cell? ⟨g, q * 3 + 2, none⟩ = some (.int .i64 y.2.2) ∧ X.cell? ⟨g, a * 3, none⟩ = some (.int .i64 x.1) ∧ X.cell? ⟨g, a * 3 + 1, none⟩ = some (.int .i64 x.2.1) ∧ X.cell? ⟨g, a * 3 + 2, none⟩ = some (.int .i64 x.2.2)) X from fun X hX => by
        obtain ⟨a0, a1, a2⟩ := HR.out.drw hX hlq
        obtain ⟨b0, b1, b2⟩ := HR.out.drw hX hla
        exact ⟨hX, a0, a1, a2, b0, b1, b2⟩)
      have HCM := Lib.hid (fun X => stCmp_any y x X (HOK.out.sm hlq) (HOK.out.sm hla))
      have hj0 : (0 : Int) ≤ (q : Int) := by omega
      have hj1' : (q : Int) < (l.length : Int) := by omega
      have hj5' : q < l.length := by omega
      have ha1' : (a : Int) < (l.length : Int) := by omega
      have ha5' : a < l.length := by omega
      go_wp2_with fail
      skip
      {
 refine wp_region_noPanic ?_
 refine wp_region_held_drew (S := (fun X => Below wj.heap.size wj X ∧ X.cell? ⟨g, q * 3, none⟩ = some (.int .i64 y.1) ∧ X.cell? ⟨g, q * 3 + 1, none⟩ = some (.int .i64 y.2.1) ∧ X.cell? ⟨g, q * 3 + 2, none⟩ = some (.int .i64 y.2.2) ∧ X.cell? ⟨g, a * 3, none⟩ = some (.int .i64 x.1) ∧ X.cell? ⟨g, a * 3 + 1, none⟩ = some (.int .i64 x.2.1) ∧ X.cell? ⟨g, a * 3 + 2, none⟩ = some (.int .i64 x.2.2))) (by kernel_rfl) (HKS5.out _ (Below.refl _ wj).drew) (fun HS0 => ?_)
 have hbx0 : Below wj.heap.size wj wj.drew := (Below.refl _ _).drew
 obtain ⟨Xx0, hXx0⟩ : ∃ X, X = wj.drew := ⟨_, rfl⟩
 rw [← hXx0] at hbx0 HS0 ⊢
 have HBx0 := Lib.hid hbx0
 clear hbx0 hXx0
 refine wpAnyH_take (i := 0) (v := ?_) rfl (by kernel_rfl) (by kernel_rfl) (by kernel_rfl) (fun _ _ _ h => h) (Or.inl ⟨by kernel_rfl, ?_⟩) HS0 ?_
 rotate_left
 · intro W hW; (try dsimp only at hW); go_simp; try (with_reducible rfl)
 refine wpAnyH_take (i := 1) (v := ?_) rfl (by kernel_rfl) (by kernel_rfl) (by kernel_rfl) (fun _ _ _ h => h) (Or.inl ⟨by kernel_rfl, ?_⟩) HS0 ?_
 rotate_left
 · intro W hW; (try dsimp only at hW); go_simp; try (with_reducible rfl)
 refine wpAnyH_take (i := 2) (v := ?_) rfl (by kernel_rfl) (by kernel_rfl) (by kernel_rfl) (fun _ _ _ h => h) (Or.inl ⟨by kernel_rfl, ?_⟩) HS0 ?_
 rotate_left
 · intro W hW; (try dsimp only at hW); go_simp; try (with_reducible rfl)
 refine wpAnyH_take (i := 3) (v := ?_) rfl (by kernel_rfl) (by kernel_rfl) (by kernel_rfl) (fun _ _ _ h => h) (Or.inl ⟨by kernel_rfl, ?_⟩) HS0 ?_
 rotate_left
 · intro W hW; (try dsimp only at hW); go_simp; try (with_reducible rfl)
 refine wpAnyH_take (i := 4) (v := ?_) rfl (by kernel_rfl) (by kernel_rfl) (by kernel_rfl) (fun _ _ _ h => h) (Or.inl ⟨by kernel_rfl, ?_⟩) HS0 ?_
 rotate_left
 · intro W hW; (try dsimp only at hW); go_simp; try (with_reducible rfl)
 refine wpAnyH_take (i := 5) (v := ?_) rfl (by kernel_rfl) (by kernel_rfl) (by kernel_rfl) (fun _ _ _ h => h) (Or.inl ⟨by kernel_rfl, ?_⟩) HS0 ?_
 rotate_left
 · intro W hW; (try dsimp only at hW); go_simp; try (with_reducible rfl)
 refine wpAnyH_take (i := 6) (v := ?_) rfl (by kernel_rfl) (by kernel_rfl) (by kernel_rfl) (fun _ _ _ h => h) (Or.inl ⟨by kernel_rfl, ?_⟩) HS0 ?_
 rotate_left
 · intro W hW; (try dsimp only at hW); go_simp; try (with_reducible rfl)
 refine wpAnyH_take (i := 7) (v := ?_) rfl (by kernel_rfl) (by kernel_rfl) (by kernel_rfl) (fun _ _ _ h => h) (Or.inl ⟨by kernel_rfl, ?_⟩) HS0 ?_
 rotate_left
 · intro W hW; (try dsimp only at hW); go_simp; try (with_reducible rfl)
 refine wpAnyH_take (i := 8) (v := ?_) rfl (by kernel_rfl) (by kernel_rfl) (by kernel_rfl) (fun _ _ _ h => h) (Or.inl ⟨by kernel_rfl, ?_⟩) HS0 ?_
 rotate_left
 · intro W hW; (try dsimp only at hW); go_simp; try (with_reducible rfl)
 clear HS0
 refine run_one (i := 9) (by kernel_rfl) rfl rfl ?_
 intro K hK
 go_simp
 (with_reducible refine (HCM.out Xx0).mono ?_)
 rintro e Xx1 ⟨rfl, hbx1⟩
 have HBx1 := Lib.hid (below_next (HBx0.out) hbx1)
 refine hK.out _ _ (HKS5.out _ HBx1.out) ?_
 clear hK K
 intro _
 have HS0 := HKS5.out _ (HBx1.out)
 refine wpAnyH_take (i := 10) (v := ?_) rfl (by kernel_rfl) (by kernel_rfl) (by kernel_rfl) (fun _ _ _ h => h) (Or.inl ⟨by kernel_rfl, ?_⟩) HS0 ?_
 rotate_left
 · intro W hW; (try dsimp only at hW); go_simp; try (with_reducible rfl)
 clear HS0
 refine wpAnyH_done (by kernel_rfl) ?_ _
 refine NoPanic.normal ?_
 (try go_simp)
 obtain ⟨cv, hcv⟩ : ∃ z, z = cmpA y x := ⟨_, rfl⟩
 rw [← hcv]
 have HRN := Lib.hid (HR.out.on (HBx1.out))
 have HFN := Lib.hid (HF.out.trans (Fr.of_b (may := fun q => q = g) (HBx1.out)) (fun _ _ h => h))
 by_cases hc : cv < 0
 · have hyx : ltA y x := by unfold ltA; rw [← hcv]; exact hc
   clear hcv
   go_wp2
   go_roundw
   case rel => exact ⟨q + 1, j, by go_num, rfl, by omega, by omega, hj, fun _ z hz => by rw [Nat.add_sub_cancel, hlq] at hz; cases hz; exact hyx, HG2.out, HRN.out, HFN.out⟩
   case measure => simp [intOf]; omega
 · have hxy : ltA x y := ltA_total (HOK.out.df (p := q) (q := a) (by omega) hlq hla) (by unfold ltA; rw [← hcv]; exact hc)
   clear hcv
   go_wp2
   go_roundw
   case rel => exact ⟨i, q, rfl, rfl, hi, by omega, by omega, HG1.out, fun _ z hz => by rw [hlq] at hz; cases hz; exact hxy, HRN.out, HFN.out⟩
   case measure => simp [intOf]; omega
      }
    · obtain rfl : i = j := by omega
      have hltz : ¬ (i : Int) < (i : Int) := by omega
      have hw1 : IntKind.i64.wrap ((i : Int) - 1) = (i : Int) - 1 := IntWalk.i64_in _ (by omega)
      go_wp2
      go_loopw [13] (fun kv wr => ∃ k : Nat, kv = .int .i64 (k : Int) ∧ a ≤ k ∧ k + 1 ≤ i ∧ RowA wr g (rot l a (a + 1) (k + 1)) ∧ Fr (fun q => q = g) w wr) (fun kv _ => i - (intOf kv).toNat)
      case atStart => exact ⟨a, rfl, Nat.le_refl _, by omega, by rw [rot_start (by omega)]; exact HR.out, HF.out⟩
      case round =>
        obtain ⟨k, rfl, hk1, hk2, hrow, hfr⟩ := hrel
        have HR2 := Lib.hid hrow
        have HF2 := Lib.hid hfr
        clear hrow hfr HR HF
        have hrl := rot_length (l := l) (s := a) (m := a + 1) (e := k + 1) (by omega) (by omega) (by omega)
        by_cases hki : k + 1 < i
        · obtain ⟨wk, rfl⟩ : ∃ W : World, W = wr := ⟨_, rfl⟩
          have hkz : (k : Int) < (i : Int) - 1 := by omega
          obtain ⟨u, hu⟩ : ∃ u, (rot l a (a + 1) (k + 1))[k]? = some u := ⟨_, List.getElem?_eq_getElem (by omega)⟩
          obtain ⟨v, hv⟩ : ∃ v, (rot l a (a + 1) (k + 1))[k + 1]? = some v := ⟨_, List.getElem?_eq_getElem (by omega)⟩
          have hk0 : (0 : Int) ≤ (k : Int) := by omega
          have hkl : (k : Int) < (l.length : Int) := by omega
          have hkl2 : (k : Int) + 1 < (l.length : Int) := by omega
          have hkn : k < l.length := by omega
          have hkn2 : k + 1 < l.length := by omega
          have hk00 : (0 : Int) ≤ (k : Int) + 1 := by omega
          have hw2 : IntKind.i64.wrap ((k : Int) + 1) = (k : Int) + 1 := IntWalk.i64_in _ (by omega)
          obtain ⟨x0, x1, x2⟩ := HR2.out.at hu
          obtain ⟨y0, y1, y2⟩ := HR2.out.at hv
          obtain ⟨W9, hW9⟩ : ∃ V, V = (((((wk.setCell ⟨g, k * 3, none⟩ (.int .i64 v.1)).setCell ⟨g, k * 3 + 1, none⟩ (.int .i64 v.2.1)).setCell ⟨g, k * 3 + 2, none⟩ (.int .i64 v.2.2)).setCell ⟨g, (k + 1) * 3, none⟩ (.int .i64 u.1)).setCell ⟨g, (k + 1) * 3 + 1, none⟩ (.int .i64 u.2.1)).setCell ⟨g, (k + 1) * 3 + 2, none⟩ (.int .i64 u.2.2) := ⟨_, rfl⟩
          have HSW := Lib.hid (show RowA W9.drew g (swL (rot l a (a + 1) (k + 1)) k (k + 1)) by rw [hW9]; exact (HR2.out.swap hu hv).on (Below.refl _ _).drew)
          have HFW := Lib.hid (show Fr (fun q => q = g) w W9.drew by rw [hW9]; exact (HF2.out.trans (al_fr wk g (k * 3) ((k + 1) * 3) (.int .i64 v.1) (.int .i64 v.2.1) (.int .i64 v.2.2) (.int .i64 u.1) (.int .i64 u.2.1) (.int .i64 u.2.2)) (fun _ _ h => h)).drew)
          have f0 := HR2.out.frozen (k * 3)
          have f1 := HR2.out.frozen (k * 3 + 1)
          have f2 := HR2.out.frozen (k * 3 + 2)
          have f3' := HR2.out.frozen ((k + 1) * 3)
          have f4 := HR2.out.frozen ((k + 1) * 3 + 1)
          have f5 := HR2.out.frozen ((k + 1) * 3 + 2)
          rw [rot_up hk1 (by omega)] at HSW
          go_wp2_with fail
          go_big_region_o
          rw [← hW9]
          clear hW9 x0 x1 x2 y0 y1 y2 f0 f1 f2 f3' f4 f5
          go_wp2
          go_roundw
          case rel => exact ⟨k + 1, by go_num, by omega, by omega, HSW.out, HFW.out⟩
          case measure => simp [intOf]; omega
        · have hkz : ¬ (k : Int) < (i : Int) - 1 := by omega
          obtain rfl : i = k + 1 := by omega
          have HMM := HM.out
          have HSRT := Lib.hid (ins_left ltA_trans (l := l) (a := a) (b := b) (i := k + 1) (x := x) hb (by omega) (by omega) (by rw [← HM.out]; exact HS.out) hla (fun h => HG1.out (by omega)) (fun h => HG2.out h))
          have HPR := Lib.hid ((rot_perm (l := l) (s := a) (m := a + 1) (e := k + 1) (by omega) (by omega) (by omega)).within (a := a) (b := b) (by omega) (Nat.le_refl _) (by omega) (by omega))
          clear HMM
          go_wp2
          refine bodyPost_ret (v := .tuple #[]) (by simp [results, Tryz.results110]) rfl ⟨rfl, _, HR2.out, HPR.out, HSRT.out, HF2.out⟩
end Go.Proofs.YtnpfdelklolchaaGreatDoor

/- slices.symMergeCmpFunc at alerts where the second part has one element. Printed by gen_stsym.py. -/
namespace Go.Proofs.YtnpfdelklolchaaGreatDoor
open Go Go.RowKit Go.Proofs

set_option maxHeartbeats 8000000 in
set_option maxRecDepth 100000 in
theorem stSymR_any (g c a m b : Nat) (l : List Al) (w : World) (h : RowA w g l) (ham : a < m) (ham1 : m ≠ a + 1) (hmb : b = m + 1) (hb : b ≤ l.length) (hl : l.length ≤ 1000000) (hok : OkA l) (hs : SrtOn ltA l a m) :
    Calls Tryz.prog 110 #[.slice (some ⟨g, 0, none⟩) l.length c, .int .i64 (a : Int), .int .i64 (m : Int), .int .i64 (b : Int), .func (.func 63) #[] #[]] w fun e w' => e = .returned (.tuple #[]) ∧ ∃ l', RowA w' g l' ∧ PermOn l l' a b ∧ SrtOn ltA l' a b ∧ Fr (fun q => q = g) w w' := by
  have H0 := Lib.hid h
  have HOK := Lib.hid hok
  have mixed : Tryz.prog.follows Departure.mixedOrders = true := by kernel_rfl
  have hw0 : IntKind.i64.wrap ((m : Int) - (a : Int)) = (m : Int) - (a : Int) := IntWalk.i64_in _ (by omega)
  have hz0 : ((m : Int) - (a : Int) == 1) = false := by rw [beq_eq_false_iff_ne]; omega
  have hz00 : ¬ (m : Int) - (a : Int) = 1 := by omega
  have hw1 : IntKind.i64.wrap ((b : Int) - (m : Int)) = 1 := by rw [IntWalk.i64_in _ (by omega)]; omega
  have HM := Lib.hid hmb
  have HS := Lib.hid hs
  obtain ⟨x, hlm⟩ : ∃ x, l[m]? = some x := ⟨_, List.getElem?_eq_getElem (by omega)⟩
  have hmb' : m < b := by omega
  clear h hok hmb hs
  go_enter Tryz.func110, Tryz.ntmps110
  go_wp2
  go_loopw [14, 15] (fun iv jv wr => ∃ i j : Nat, iv = .int .i64 (i : Int) ∧ jv = .int .i64 (j : Int) ∧ a ≤ i ∧ i ≤ j ∧ j ≤ m ∧ (a < i → ∀ z, l[i - 1]? = some z → ltA z x) ∧ (j < m → ∀ z, l[j]? = some z → ltA x z) ∧ RowA wr g l ∧ Fr (fun q => q = g) w wr) (fun iv jv _ => (intOf jv).toNat - (intOf iv).toNat)
  case atStart => exact ⟨a, m, rfl, rfl, Nat.le_refl _, by omega, Nat.le_refl _, fun h => absurd h (Nat.lt_irrefl _), fun h => absurd h (Nat.lt_irrefl _), H0.out, Fr.refl _ _⟩
  case round =>
    obtain ⟨i, j, rfl, rfl, hi, hij, hj, hg1, hg2, hrow, hfr⟩ := hrel
    have HG1 := Lib.hid hg1
    have HG2 := Lib.hid hg2
    have HR := Lib.hid hrow
    have HF := Lib.hid hfr
    clear hg1 hg2 hrow hfr H0
    by_cases hlt : i < j
    · have hltz : (i : Int) < (j : Int) := by omega
      obtain ⟨wj, rfl⟩ : ∃ W : World, W = wr := ⟨_, rfl⟩
      obtain ⟨q, hq⟩ : ∃ q, q = (i + j) / 2 := ⟨_, rfl⟩
      have hh : ((i : Int) + (j : Int)) / 2 = (q : Int) := by omega
      have hq1 : i ≤ q := by omega
      have hq2 : q < j := by omega
      clear hq
      obtain ⟨y, hlq⟩ : ∃ y, l[q]? = some y := ⟨_, List.getElem?_eq_getElem (by omega)⟩
      have HKS17 := Lib.hid (show ∀ X, Below wj.heap.size wj X → (fun X => Below wj.heap.size wj X ∧ X.cell? ⟨g, m * 3, none⟩ = some (.int .i64 x.1) ∧ X.cell? ⟨g, m * 3 + 1, none⟩ = some (.int .i64 x.2.1) ∧ X.cell? ⟨g, m * 3 + 2, none⟩ = some (.int .i64 x.2.2) ∧ X.cell? ⟨g, q * 3, none⟩ = some (.int .i64 y.1) ∧ X.cell? ⟨g, q * 3 + 1, none⟩ = some (.int .i64 y.2.1) ∧ X.cell? ⟨g, q * 3 + 2, none⟩ = some (.int .i64 y.2.2)) X from fun X hX => by
        obtain ⟨a0, a1, a2⟩ := HR.out.drw hX hlm
        obtain ⟨b0, b1, b2⟩ := HR.out.drw hX hlq
        exact ⟨hX, a0, a1, a2, b0, b1, b2⟩)
      have HCM := Lib.hid (fun X => stCmp_any x y X (HOK.out.sm hlm) (HOK.out.sm hlq))
      have hj0 : (0 : Int) ≤ (q : Int) := by omega
      have hj1' : (q : Int) < (l.length : Int) := by omega
      have hj5' : q < l.length := by omega
      have ha1' : (m : Int) < (l.length : Int) := by omega
      have ha5' : m < l.length := by omega
      go_wp2_with fail
      skip
      {
 refine wp_region_noPanic ?_
 refine wp_region_held_drew (S := (fun X => Below wj.heap.size wj X ∧ X.cell? ⟨g, m * 3, none⟩ = some (.int .i64 x.1) ∧ X.cell? ⟨g, m * 3 + 1, none⟩ = some (.int .i64 x.2.1) ∧ X.cell? ⟨g, m * 3 + 2, none⟩ = some (.int .i64 x.2.2) ∧ X.cell? ⟨g, q * 3, none⟩ = some (.int .i64 y.1) ∧ X.cell? ⟨g, q * 3 + 1, none⟩ = some (.int .i64 y.2.1) ∧ X.cell? ⟨g, q * 3 + 2, none⟩ = some (.int .i64 y.2.2))) (by kernel_rfl) (HKS17.out _ (Below.refl _ wj).drew) (fun HS0 => ?_)
 have hbx0 : Below wj.heap.size wj wj.drew := (Below.refl _ _).drew
 obtain ⟨Xx0, hXx0⟩ : ∃ X, X = wj.drew := ⟨_, rfl⟩
 rw [← hXx0] at hbx0 HS0 ⊢
 have HBx0 := Lib.hid hbx0
 clear hbx0 hXx0
 refine wpAnyH_take (i := 0) (v := ?_) rfl (by kernel_rfl) (by kernel_rfl) (by kernel_rfl) (fun _ _ _ h => h) (Or.inl ⟨by kernel_rfl, ?_⟩) HS0 ?_
 rotate_left
 · intro W hW; (try dsimp only at hW); go_simp; try (with_reducible rfl)
 refine wpAnyH_take (i := 1) (v := ?_) rfl (by kernel_rfl) (by kernel_rfl) (by kernel_rfl) (fun _ _ _ h => h) (Or.inl ⟨by kernel_rfl, ?_⟩) HS0 ?_
 rotate_left
 · intro W hW; (try dsimp only at hW); go_simp; try (with_reducible rfl)
 refine wpAnyH_take (i := 2) (v := ?_) rfl (by kernel_rfl) (by kernel_rfl) (by kernel_rfl) (fun _ _ _ h => h) (Or.inl ⟨by kernel_rfl, ?_⟩) HS0 ?_
 rotate_left
 · intro W hW; (try dsimp only at hW); go_simp; try (with_reducible rfl)
 refine wpAnyH_take (i := 3) (v := ?_) rfl (by kernel_rfl) (by kernel_rfl) (by kernel_rfl) (fun _ _ _ h => h) (Or.inl ⟨by kernel_rfl, ?_⟩) HS0 ?_
 rotate_left
 · intro W hW; (try dsimp only at hW); go_simp; try (with_reducible rfl)
 refine wpAnyH_take (i := 4) (v := ?_) rfl (by kernel_rfl) (by kernel_rfl) (by kernel_rfl) (fun _ _ _ h => h) (Or.inl ⟨by kernel_rfl, ?_⟩) HS0 ?_
 rotate_left
 · intro W hW; (try dsimp only at hW); go_simp; try (with_reducible rfl)
 refine wpAnyH_take (i := 5) (v := ?_) rfl (by kernel_rfl) (by kernel_rfl) (by kernel_rfl) (fun _ _ _ h => h) (Or.inl ⟨by kernel_rfl, ?_⟩) HS0 ?_
 rotate_left
 · intro W hW; (try dsimp only at hW); go_simp; try (with_reducible rfl)
 refine wpAnyH_take (i := 6) (v := ?_) rfl (by kernel_rfl) (by kernel_rfl) (by kernel_rfl) (fun _ _ _ h => h) (Or.inl ⟨by kernel_rfl, ?_⟩) HS0 ?_
 rotate_left
 · intro W hW; (try dsimp only at hW); go_simp; try (with_reducible rfl)
 refine wpAnyH_take (i := 7) (v := ?_) rfl (by kernel_rfl) (by kernel_rfl) (by kernel_rfl) (fun _ _ _ h => h) (Or.inl ⟨by kernel_rfl, ?_⟩) HS0 ?_
 rotate_left
 · intro W hW; (try dsimp only at hW); go_simp; try (with_reducible rfl)
 refine wpAnyH_take (i := 8) (v := ?_) rfl (by kernel_rfl) (by kernel_rfl) (by kernel_rfl) (fun _ _ _ h => h) (Or.inl ⟨by kernel_rfl, ?_⟩) HS0 ?_
 rotate_left
 · intro W hW; (try dsimp only at hW); go_simp; try (with_reducible rfl)
 clear HS0
 refine run_one (i := 9) (by kernel_rfl) rfl rfl ?_
 intro K hK
 go_simp
 (with_reducible refine (HCM.out Xx0).mono ?_)
 rintro e Xx1 ⟨rfl, hbx1⟩
 have HBx1 := Lib.hid (below_next (HBx0.out) hbx1)
 refine hK.out _ _ (HKS17.out _ HBx1.out) ?_
 clear hK K
 intro _
 have HS0 := HKS17.out _ (HBx1.out)
 refine wpAnyH_take (i := 10) (v := ?_) rfl (by kernel_rfl) (by kernel_rfl) (by kernel_rfl) (fun _ _ _ h => h) (Or.inl ⟨by kernel_rfl, ?_⟩) HS0 ?_
 rotate_left
 · intro W hW; (try dsimp only at hW); go_simp; try (with_reducible rfl)
 clear HS0
 have HS0 := HKS17.out _ (HBx1.out)
 refine wpAnyH_take (i := 11) (v := ?_) rfl (by kernel_rfl) (by kernel_rfl) (by kernel_rfl) (fun _ _ _ h => h) (Or.inl ⟨by kernel_rfl, ?_⟩) HS0 ?_
 rotate_left
 · intro W hW; (try dsimp only at hW); go_simp; try (with_reducible rfl)
 clear HS0
 refine wpAnyH_done (by kernel_rfl) ?_ _
 refine NoPanic.normal ?_
 (try go_simp)
 obtain ⟨cv, hcv⟩ : ∃ z, z = cmpA x y := ⟨_, rfl⟩
 rw [← hcv]
 have HRN := Lib.hid (HR.out.on (HBx1.out))
 have HFN := Lib.hid (HF.out.trans (Fr.of_b (may := fun q => q = g) (HBx1.out)) (fun _ _ h => h))
 obtain ⟨cb, hcb⟩ : ∃ z, z = (!decide (cv < 0)) := ⟨_, rfl⟩
 rw [← hcb]
 by_cases hc : cv < 0
 · have hxy : ltA x y := by unfold ltA; rw [← hcv]; exact hc
   obtain rfl : cb = false := by rw [hcb, decide_eq_true hc]; rfl
   clear hcb
   clear hcv
   go_wp2
   go_roundw
   case rel => exact ⟨i, q, rfl, rfl, hi, by omega, by omega, HG1.out, fun _ z hz => by rw [hlq] at hz; cases hz; exact hxy, HRN.out, HFN.out⟩
   case measure => simp [intOf]; omega
 · have hyx : ltA y x := ltA_total (HOK.out.df (p := m) (q := q) (by omega) hlm hlq) (by unfold ltA; rw [← hcv]; exact hc)
   obtain rfl : cb = true := by rw [hcb, decide_eq_false hc]; rfl
   clear hcb
   clear hcv
   go_wp2
   go_roundw
   case rel => exact ⟨q + 1, j, by go_num, rfl, by omega, by omega, hj, fun _ z hz => by rw [Nat.add_sub_cancel, hlq] at hz; cases hz; exact hyx, HG2.out, HRN.out, HFN.out⟩
   case measure => simp [intOf]; omega
      }
    · obtain rfl : i = j := by omega
      have hltz : ¬ (i : Int) < (i : Int) := by omega
      go_wp2
      go_loopw [17] (fun kv wr => ∃ k : Nat, kv = .int .i64 (k : Int) ∧ i ≤ k ∧ k ≤ m ∧ RowA wr g (rot l k m (m + 1)) ∧ Fr (fun q => q = g) w wr) (fun kv _ => (intOf kv).toNat)
      case atStart => exact ⟨m, rfl, hj, Nat.le_refl _, by rw [rot_start' (by omega)]; exact HR.out, HF.out⟩
      case round =>
        obtain ⟨k', rfl, hk1, hk2, hrow, hfr⟩ := hrel
        by_cases hki : i < k'
        · obtain ⟨k, rfl⟩ : ∃ k, k' = k + 1 := ⟨k' - 1, by omega⟩
          have HR2 := Lib.hid hrow
          have HF2 := Lib.hid hfr
          clear hrow hfr HR HF
          have hrl := rot_length (l := l) (s := k + 1) (m := m) (e := m + 1) (by omega) (by omega) (by omega)
          obtain ⟨wk, rfl⟩ : ∃ W : World, W = wr := ⟨_, rfl⟩
          have hkz : (i : Int) < (k : Int) + 1 := by omega
          have hkz2 : i < k + 1 := hki
          obtain ⟨u, hu⟩ : ∃ u, (rot l (k + 1) m (m + 1))[k + 1]? = some u := ⟨_, List.getElem?_eq_getElem (by omega)⟩
          obtain ⟨v, hv⟩ : ∃ v, (rot l (k + 1) m (m + 1))[k]? = some v := ⟨_, List.getElem?_eq_getElem (by omega)⟩
          have hk0 : (0 : Int) ≤ (k : Int) := by omega
          have hkl : (k : Int) < (l.length : Int) := by omega
          have hkl2 : (k : Int) + 1 < (l.length : Int) := by omega
          have hkn : k < l.length := by omega
          have hkn2 : k + 1 < l.length := by omega
          have hk00 : (0 : Int) ≤ (k : Int) + 1 := by omega
          have hw2 : IntKind.i64.wrap ((k : Int) + 1 - 1) = (k : Int) := by rw [IntWalk.i64_in _ (by omega)]; omega
          have hw3 : IntKind.i64.wrap (k : Int) = (k : Int) := IntWalk.i64_in _ (by omega)
          obtain ⟨x0, x1, x2⟩ := HR2.out.at hu
          obtain ⟨y0, y1, y2⟩ := HR2.out.at hv
          obtain ⟨W9, hW9⟩ : ∃ V, V = (((((wk.setCell ⟨g, (k + 1) * 3, none⟩ (.int .i64 v.1)).setCell ⟨g, (k + 1) * 3 + 1, none⟩ (.int .i64 v.2.1)).setCell ⟨g, (k + 1) * 3 + 2, none⟩ (.int .i64 v.2.2)).setCell ⟨g, k * 3, none⟩ (.int .i64 u.1)).setCell ⟨g, k * 3 + 1, none⟩ (.int .i64 u.2.1)).setCell ⟨g, k * 3 + 2, none⟩ (.int .i64 u.2.2) := ⟨_, rfl⟩
          have HSW := Lib.hid (show RowA W9.drew g (swL (rot l (k + 1) m (m + 1)) (k + 1) k) by rw [hW9]; exact (HR2.out.swap hu hv).on (Below.refl _ _).drew)
          have HFW := Lib.hid (show Fr (fun q => q = g) w W9.drew by rw [hW9]; exact (HF2.out.trans (al_fr wk g ((k + 1) * 3) (k * 3) (.int .i64 v.1) (.int .i64 v.2.1) (.int .i64 v.2.2) (.int .i64 u.1) (.int .i64 u.2.1) (.int .i64 u.2.2)) (fun _ _ h => h)).drew)
          have f0 := HR2.out.frozen ((k + 1) * 3)
          have f1 := HR2.out.frozen ((k + 1) * 3 + 1)
          have f2 := HR2.out.frozen ((k + 1) * 3 + 2)
          have f3' := HR2.out.frozen (k * 3)
          have f4 := HR2.out.frozen (k * 3 + 1)
          have f5 := HR2.out.frozen (k * 3 + 2)
          rw [rot_down hk2 (by omega)] at HSW
          go_wp2_with fail
          go_big_region_o
          rw [← hW9]
          clear hW9 x0 x1 x2 y0 y1 y2 f0 f1 f2 f3' f4 f5
          go_wp2
          go_roundw
          case rel => exact ⟨k, by go_num, by omega, by omega, HSW.out, HFW.out⟩
          case measure => first | (simp [intOf]; done) | (simp [intOf]; omega)
        · obtain rfl : k' = i := by omega
          have hkz : ¬ (k' : Int) < (k' : Int) := by omega
          have HR2 := Lib.hid hrow
          have HF2 := Lib.hid hfr
          have HSRT := Lib.hid (ins_right ltA_trans (l := l) (a := a) (m := m) (i := k') (x := x) (by omega) hi hk2 HS.out hlm HG1.out HG2.out)
          rw [← HM.out] at HSRT
          have HPR := Lib.hid ((rot_perm (l := l) (s := k') (m := m) (e := m + 1) (by omega) (by omega) (by omega)).within (a := a) (b := b) (by omega) (by omega) (by omega) (by omega))
          clear hrow hfr HR HF
          go_wp2
          refine bodyPost_ret (v := .tuple #[]) (by simp [results, Tryz.results110]) rfl ⟨rfl, _, HR2.out, HPR.out, by rw [HM.out] at HSRT ⊢; exact HSRT.out, HF2.out⟩
end Go.Proofs.YtnpfdelklolchaaGreatDoor
