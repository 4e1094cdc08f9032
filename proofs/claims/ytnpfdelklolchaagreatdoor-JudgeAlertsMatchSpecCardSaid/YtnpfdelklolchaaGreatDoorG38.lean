import Derived.Test.YtnpfdelklolchaaGreatDoorG29
import Derived.Test.YtnpfdelklolchaaGreatDoorG31
/- slices.swapRangeCmpFunc and rotateCmpFunc at alerts. -/
namespace Go.Proofs.YtnpfdelklolchaaGreatDoor
open Go Go.RowKit Go.Proofs

set_option maxHeartbeats 8000000 in
set_option maxRecDepth 100000 in
theorem stSwap_any (g c a b n : Nat) (F : Value) (l : List Al) (w : World) (h : RowA w g l) (hab : a + n ≤ b) (hb : b + n ≤ l.length) (hl : l.length ≤ 1000000) :
    Calls Tryz.prog 137 #[.slice (some ⟨g, 0, none⟩) l.length c, .int .i64 (a : Int), .int .i64 (b : Int), .int .i64 (n : Int), F] w fun e w' => e = .returned (.tuple #[]) ∧ RowA w' g (swr l a b n) ∧ Fr (fun q => q = g) w w' := by
  have H0 := Lib.hid h
  clear h
  go_enter Tryz.func137, Tryz.ntmps137
  go_wp2
  go_loopw [10] (fun iv wr => ∃ i : Nat, iv = .int .i64 (i : Int) ∧ i ≤ n ∧ RowA wr g (swr l a b i) ∧ Fr (fun q => q = g) w wr) (fun iv _ => n - (intOf iv).toNat)
  case atStart => exact ⟨0, rfl, Nat.zero_le _, H0.out, Fr.refl _ _⟩
  case round =>
    obtain ⟨i, rfl, hi, hrow, hfr⟩ := hrel
    have HR := Lib.hid hrow
    have HF := Lib.hid hfr
    clear hrow hfr
    have hsl := swr_length l a b i
    by_cases hlt : i < n
    · have hltz : (i : Int) < (n : Int) := by omega
      obtain ⟨x, hx⟩ : ∃ x, (swr l a b i)[a + i]? = some x := ⟨_, List.getElem?_eq_getElem (by omega)⟩
      obtain ⟨y, hy⟩ : ∃ y, (swr l a b i)[b + i]? = some y := ⟨_, List.getElem?_eq_getElem (by omega)⟩
      obtain ⟨wi, rfl⟩ : ∃ W : World, W = wr := ⟨_, rfl⟩
      obtain ⟨x0, x1, x2⟩ := HR.out.at hx
      obtain ⟨y0, y1, y2⟩ := HR.out.at hy
      obtain ⟨W9, hW9⟩ : ∃ W, W = (((((wi.setCell ⟨g, (a + i) * 3, none⟩ (.int .i64 y.1)).setCell ⟨g, (a + i) * 3 + 1, none⟩ (.int .i64 y.2.1)).setCell ⟨g, (a + i) * 3 + 2, none⟩ (.int .i64 y.2.2)).setCell ⟨g, (b + i) * 3, none⟩ (.int .i64 x.1)).setCell ⟨g, (b + i) * 3 + 1, none⟩ (.int .i64 x.2.1)).setCell ⟨g, (b + i) * 3 + 2, none⟩ (.int .i64 x.2.2) := ⟨_, rfl⟩
      have HSW := Lib.hid (show RowA W9.drew g (swr l a b (i + 1)) by rw [hW9]; exact (HR.out.swap hx hy).on (Below.refl _ _).drew)
      have HFW := Lib.hid (show Fr (fun q => q = g) w W9.drew by rw [hW9]; exact (HF.out.trans (al_fr wi g ((a + i) * 3) ((b + i) * 3) (.int .i64 y.1) (.int .i64 y.2.1) (.int .i64 y.2.2) (.int .i64 x.1) (.int .i64 x.2.1) (.int .i64 x.2.2)) (fun _ _ h => h)).drew)
      have f0 := HR.out.frozen ((a + i) * 3)
      have f1 := HR.out.frozen ((a + i) * 3 + 1)
      have f2 := HR.out.frozen ((a + i) * 3 + 2)
      have f3' := HR.out.frozen ((b + i) * 3)
      have f4 := HR.out.frozen ((b + i) * 3 + 1)
      have f5 := HR.out.frozen ((b + i) * 3 + 2)
      have ha0 : (0 : Int) ≤ (a : Int) + (i : Int) := by omega
      have ha1 : (a : Int) + (i : Int) < (l.length : Int) := by omega
      have hb0 : (0 : Int) ≤ (b : Int) + (i : Int) := by omega
      have hb1 : (b : Int) + (i : Int) < (l.length : Int) := by omega
      have hwa : IntKind.i64.wrap ((a : Int) + (i : Int)) = (a : Int) + (i : Int) := IntWalk.i64_in _ (by omega)
      have hwb : IntKind.i64.wrap ((b : Int) + (i : Int)) = (b : Int) + (i : Int) := IntWalk.i64_in _ (by omega)
      have ta : ((a : Int) + (i : Int)).toNat = a + i := by omega
      have tb : ((b : Int) + (i : Int)).toNat = b + i := by omega
      have mixed : Tryz.prog.follows Departure.mixedOrders = true := by kernel_rfl
      clear hx hy
      go_wp2_with fail
      go_big_region_o
      rw [← hW9]
      clear hW9 x0 x1 x2 y0 y1 y2 f0 f1 f2 f3' f4 f5
      go_wp2
      go_roundw
      case rel => exact ⟨i + 1, by go_num, by omega, HSW.out, HFW.out⟩
      case measure => simp [intOf]; omega
    · obtain rfl : i = n := by omega
      have hltz : ¬ (i : Int) < (i : Int) := by omega
      go_wp2
      go_end0
      exact ⟨rfl, HR.out, HF.out⟩
set_option maxHeartbeats 8000000 in
set_option maxRecDepth 100000 in
theorem stRot_any (g c s m e : Nat) (F : Value) (l : List Al) (w : World) (h : RowA w g l) (h1 : s < m) (h2 : m < e) (h3 : e ≤ l.length) (hl : l.length ≤ 1000000) :
    Calls Tryz.prog 125 #[.slice (some ⟨g, 0, none⟩) l.length c, .int .i64 (s : Int), .int .i64 (m : Int), .int .i64 (e : Int), F] w fun e' w' => e' = .returned (.tuple #[]) ∧ RowA w' g (rot l s m e) ∧ Fr (fun q => q = g) w w' := by
  have H0 := Lib.hid h
  have hw1 : IntKind.i64.wrap ((m : Int) - (s : Int)) = ((m - s : Nat) : Int) := by rw [IntWalk.i64_in _ (by omega)]; omega
  have hw2 : IntKind.i64.wrap ((e : Int) - (m : Int)) = ((e - m : Nat) : Int) := by rw [IntWalk.i64_in _ (by omega)]; omega
  clear h
  go_enter Tryz.func125, Tryz.ntmps125
  go_wp2
  go_loopw [10, 11] (fun iv jv wr => ∃ (i j : Nat) (lc : List Al), iv = .int .i64 (i : Int) ∧ jv = .int .i64 (j : Int) ∧ 0 < i ∧ 0 < j ∧ i ≤ m ∧ m + j ≤ l.length ∧ lc.length = l.length ∧ rot lc (m - i) m (m + j) = rot l s m e ∧ RowA wr g lc ∧ Fr (fun q => q = g) w wr) (fun iv jv _ => (intOf iv).toNat + (intOf jv).toNat)
  case atStart => exact ⟨m - s, e - m, l, rfl, rfl, by omega, by omega, by omega, by omega, rfl, by rw [show m - (m - s) = s by omega, show m + (e - m) = e by omega], H0.out, Fr.refl _ _⟩
  case round =>
    obtain ⟨i, j, lc, rfl, rfl, hi, hj, him, hmj, hlc, hrot, hrow, hfr⟩ := hrel
    have HR := Lib.hid hrow
    have HF := Lib.hid hfr
    have HT := Lib.hid hrot
    have HL := Lib.hid hlc
    clear hrow hfr hrot H0 hw1 hw2
    have w1 : IntKind.i64.wrap ((m : Int) - (i : Int)) = ((m - i : Nat) : Int) := by rw [IntWalk.i64_in _ (by omega)]; omega
    by_cases hij : i = j
    · subst hij
      have hc := stSwap_any g c (m - i) m i F lc wr HR.out (by omega) (by omega) (by omega)
      rw [HL.out] at hc
      have HC := Lib.hid hc
      clear hc hlc
      go_wp2_with fail
      (with_reducible refine (HC.out).mono ?_)
      rintro e' w2 ⟨rfl, hr2, hf2⟩
      have HR2 := Lib.hid (show RowA w2 g (rot l s m e) by rw [← HT.out, ← rot_same him (by rw [HL.out]; exact hmj)]; exact hr2)
      have HF2 := Lib.hid (HF.out.trans hf2 (fun _ _ h => h))
      clear hr2 hf2
      go_wp2
      go_end0
      exact ⟨rfl, HR2.out, HF2.out⟩
    · have hne : ((i : Int) != (j : Int)) = true := by rw [bne_iff_ne]; omega
      have hnn : (i != j) = true := by rw [bne_iff_ne]; exact hij
      by_cases hgt : j < i
      · have hgz : (j : Int) < (i : Int) := by omega
        have w2 : IntKind.i64.wrap ((i : Int) - (j : Int)) = ((i - j : Nat) : Int) := by rw [IntWalk.i64_in _ (by omega)]; omega
        have hc := stSwap_any g c (m - i) m j F lc wr HR.out (by omega) (by omega) (by omega)
        rw [HL.out] at hc
        have HC := Lib.hid hc
        clear hc hlc
        go_wp2_with fail
        (with_reducible refine (HC.out).mono ?_)
        rintro e' w2 ⟨rfl, hr2, hf2⟩
        have HR2 := Lib.hid hr2
        have HF2 := Lib.hid (HF.out.trans hf2 (fun _ _ h => h))
        clear hr2 hf2
        go_wp2
        go_roundw
        case rel => exact ⟨i - j, j, _, rfl, rfl, by omega, hj, by omega, hmj, by rw [swr_length, HL.out], by rw [rot_more hgt him (by rw [HL.out]; exact hmj), HT.out], HR2.out, HF2.out⟩
        case measure => simp [intOf]; omega
      · have hgz : ¬ (j : Int) < (i : Int) := by omega
        have w2 : IntKind.i64.wrap ((j : Int) - (i : Int)) = ((j - i : Nat) : Int) := by rw [IntWalk.i64_in _ (by omega)]; omega
        have w3 : IntKind.i64.wrap ((m : Int) + (j : Int)) = ((m + j : Nat) : Int) := by rw [IntWalk.i64_in _ (by omega)]; omega
        have w4 : IntKind.i64.wrap (((m + j : Nat) : Int) - (i : Int)) = ((m + j - i : Nat) : Int) := by rw [IntWalk.i64_in _ (by omega)]; omega
        have w5 : IntKind.i64.wrap ((m : Int) + (j : Int) - (i : Int)) = ((m + j - i : Nat) : Int) := by rw [IntWalk.i64_in _ (by omega)]; omega
        have hc := stSwap_any g c (m - i) (m + j - i) i F lc wr HR.out (by omega) (by omega) (by omega)
        rw [HL.out] at hc
        have HC := Lib.hid hc
        clear hc hlc
        go_wp2_with fail
        (with_reducible refine (HC.out).mono ?_)
        rintro e' w2 ⟨rfl, hr2, hf2⟩
        have HR2 := Lib.hid hr2
        have HF2 := Lib.hid (HF.out.trans hf2 (fun _ _ h => h))
        clear hr2 hf2
        go_wp2
        go_roundw
        case rel => exact ⟨i, j - i, _, rfl, rfl, hi, by omega, him, by omega, by rw [swr_length, HL.out], by rw [rot_less (by omega) him (by rw [HL.out]; exact hmj), HT.out], HR2.out, HF2.out⟩
        case measure => simp [intOf]; omega
end Go.Proofs.YtnpfdelklolchaaGreatDoor

/- slices.insertionSortCmpFunc at alerts. Printed by gen_stins.py. -/
namespace Go.Proofs.YtnpfdelklolchaaGreatDoor
open Go Go.RowKit Go.Proofs

set_option maxHeartbeats 8000000 in
set_option maxRecDepth 100000 in
theorem stIns_any (g c a b : Nat) (l : List Al) (w : World) (h : RowA w g l) (hab : a ≤ b) (hb : b ≤ l.length) (hl : l.length ≤ 1000000) (hok : OkA l) :
    Calls Tryz.prog 109 #[.slice (some ⟨g, 0, none⟩) l.length c, .int .i64 (a : Int), .int .i64 (b : Int), .func (.func 63) #[] #[]] w fun e w' => e = .returned (.tuple #[]) ∧ ∃ l', RowA w' g l' ∧ PermOn l l' a b ∧ SrtOn ltA l' a b ∧ Fr (fun q => q = g) w w' := by
  have H0 := Lib.hid h
  have HOK := Lib.hid hok
  have mixed : Tryz.prog.follows Departure.mixedOrders = true := by kernel_rfl
  clear h hok
  go_enter Tryz.func109, Tryz.ntmps109
  go_wp2
  go_loopw [8] (fun iv wr => ∃ (i : Nat) (lc : List Al), iv = .int .i64 (i : Int) ∧ a + 1 ≤ i ∧ i ≤ b + 1 ∧ PermOn l lc a b ∧ SrtOn ltA lc a i ∧ RowA wr g lc ∧ Fr (fun q => q = g) w wr) (fun iv _ => b + 1 - (intOf iv).toNat)
  case atStart => exact ⟨a + 1, l, by go_num, Nat.le_refl _, by omega, PermOn.refl _ _ _, SrtOn.empty _ (by omega), H0.out, Fr.refl _ _⟩
  case round =>
    obtain ⟨i, lc, rfl, hi1, hi2, hp, hs, hrow, hfr⟩ := hrel
    have HP := Lib.hid hp
    have HS := Lib.hid hs
    have HR0 := Lib.hid hrow
    have HF0 := Lib.hid hfr
    have hlen := hp.len
    clear hp hs hrow hfr H0
    by_cases hib : i < b
    · have hibz : (i : Int) < (b : Int) := by omega
      have HOK2 := Lib.hid (HOK.out.perm (HP.out.all hab))
      obtain ⟨x, hli⟩ : ∃ x, lc[i]? = some x := ⟨_, List.getElem?_eq_getElem (by omega)⟩
      go_wp2
      go_loopw [9] (fun jv wr => ∃ j : Nat, jv = .int .i64 (j : Int) ∧ a ≤ j ∧ j ≤ i ∧ (j < i → ∀ z, lc[j]? = some z → ltA x z) ∧ RowA wr g (rot lc j i (i + 1)) ∧ Fr (fun q => q = g) w wr) (fun jv _ => (intOf jv).toNat)
      case atStart => exact ⟨i, rfl, by omega, Nat.le_refl _, fun h => absurd h (Nat.lt_irrefl _), by rw [rot_start' (by omega)]; exact HR0.out, HF0.out⟩
      case round =>
        obtain ⟨j, rfl, hj1, hj2, hg, hrow, hfr⟩ := hrel
        have HG := Lib.hid hg
        have HR := Lib.hid hrow
        have HF := Lib.hid hfr
        clear hg hrow hfr HR0 HF0
        obtain ⟨wj, rfl⟩ : ∃ W : World, W = wr := ⟨_, rfl⟩
        by_cases hja : a < j
        · obtain ⟨q, rfl⟩ : ∃ q, j = q + 1 := ⟨j - 1, by omega⟩
          have hqi : q + 1 ≤ i := hj2
          obtain ⟨y, hlq⟩ : ∃ y, lc[q]? = some y := ⟨_, List.getElem?_eq_getElem (by omega)⟩
          have hx : (rot lc (q + 1) i (i + 1))[q + 1]? = some x := by
            rw [rot_lo (by omega) (by omega) (by omega) (Nat.le_refl _) (by omega), show q + 1 - (q + 1) + i = i by omega]; exact hli
          have hy : (rot lc (q + 1) i (i + 1))[q]? = some y := by
            rw [rot_out (by omega) (by omega) (by omega) (.inl (by omega))]; exact hlq
          have HKS4 := Lib.hid (show ∀ X, Below wj.heap.size wj X → (fun X => Below wj.heap.size wj X ∧ X.cell? ⟨g, (q + 1) * 3, none⟩ = some (.int .i64 x.1) ∧ X.cell? ⟨g, (q + 1) * 3 + 1, none⟩ = some (.int .i64 x.2.1) ∧ X.cell? ⟨g, (q + 1) * 3 + 2, none⟩ = some (.int .i64 x.2.2) ∧ X.cell? ⟨g, q * 3, none⟩ = some (.int .i64 y.1) ∧ X.cell? ⟨g, q * 3 + 1, none⟩ = some (.int .i64 y.2.1) ∧ X.cell? ⟨g, q * 3 + 2, none⟩ = some (.int .i64 y.2.2)) X from fun X hX => by
            obtain ⟨a0, a1, a2⟩ := HR.out.drw hX hx
            obtain ⟨b0, b1, b2⟩ := HR.out.drw hX hy
            exact ⟨hX, a0, a1, a2, b0, b1, b2⟩)
          have HCM := Lib.hid (fun X => stCmp_any x y X (HOK2.out.sm hli) (HOK2.out.sm hlq))
          have hja' : (a : Int) < (q : Int) + 1 := by omega
          have hja3 : a < q + 1 := hja
          have hj0 : (0 : Int) ≤ (q : Int) := by omega
          have hj1' : (q : Int) < (l.length : Int) := by omega
          have hj2' : (q : Int) + 1 < (l.length : Int) := by omega
          have hj3' : (0 : Int) ≤ (q : Int) + 1 := by omega
          have hj4' : q + 1 < l.length := by omega
          have hj5' : q < l.length := by omega
          have hw1 : IntKind.i64.wrap ((q : Int) + 1 - 1) = (q : Int) := by rw [IntWalk.i64_in _ (by omega)]; omega
          have hw2 : IntKind.i64.wrap (q : Int) = (q : Int) := IntWalk.i64_in _ (by omega)
          go_wp2_with fail
          skip
          {
 refine wp_region_noPanic ?_
 refine wp_region_held_drew (S := (fun X => Below wj.heap.size wj X ∧ X.cell? ⟨g, (q + 1) * 3, none⟩ = some (.int .i64 x.1) ∧ X.cell? ⟨g, (q + 1) * 3 + 1, none⟩ = some (.int .i64 x.2.1) ∧ X.cell? ⟨g, (q + 1) * 3 + 2, none⟩ = some (.int .i64 x.2.2) ∧ X.cell? ⟨g, q * 3, none⟩ = some (.int .i64 y.1) ∧ X.cell? ⟨g, q * 3 + 1, none⟩ = some (.int .i64 y.2.1) ∧ X.cell? ⟨g, q * 3 + 2, none⟩ = some (.int .i64 y.2.2))) (by kernel_rfl) (HKS4.out _ (Below.refl _ wj).drew) (fun HS0 => ?_)
 have hbx0 : Below wj.heap.size wj wj.drew := (Below.refl _ _).drew
 obtain ⟨Xx0, hXx0⟩ : ∃ X, X = wj.drew := ⟨_, rfl⟩
 rw [← hXx0] at hbx0 HS0 ⊢
 have HBx0 := Lib.hid hbx0
 clear hbx0 hXx0
 refine wpAnyH_take (i := 0) (v := ?_) rfl (by kernel_rfl) (by kernel_rfl) (by kernel_rfl) (fun _ _ _ h => h) (Or.inl ⟨by kernel_rfl, ?_⟩) HS0 ?_
 rotate_left
 · intro W hW; (try dsimp only at hW); go_simp; try (with_reducible rfl)
 refine wpAnyH_take (i := 1) (v := ?_) rfl (by kernel_rfl) (by kernel_rfl) (by kernel_rfl) (fun _ _ _ h => h) (Or.inl ⟨by kernel_rfl, ?_⟩) HS0 ?_
 rotate_left
 · intro W hW; (try dsimp only at hW); go_simp; try (with_reducible rfl)
 refine wpAnyH_take (i := 2) (v := ?_) rfl (by kernel_rfl) (by kernel_rfl) (by kernel_rfl) (fun _ _ _ h => h) (Or.inl ⟨by kernel_rfl, ?_⟩) HS0 ?_
 rotate_left
 · intro W hW; (try dsimp only at hW); go_simp; try (with_reducible rfl)
 refine wpAnyH_take (i := 3) (v := ?_) rfl (by kernel_rfl) (by kernel_rfl) (by kernel_rfl) (fun _ _ _ h => h) (Or.inl ⟨by kernel_rfl, ?_⟩) HS0 ?_
 rotate_left
 · intro W hW; (try dsimp only at hW); go_simp; try (with_reducible rfl)
 refine wpAnyH_take (i := 4) (v := ?_) rfl (by kernel_rfl) (by kernel_rfl) (by kernel_rfl) (fun _ _ _ h => h) (Or.inl ⟨by kernel_rfl, ?_⟩) HS0 ?_
 rotate_left
 · intro W hW; (try dsimp only at hW); go_simp; try (with_reducible rfl)
 refine wpAnyH_take (i := 5) (v := ?_) rfl (by kernel_rfl) (by kernel_rfl) (by kernel_rfl) (fun _ _ _ h => h) (Or.inl ⟨by kernel_rfl, ?_⟩) HS0 ?_
 rotate_left
 · intro W hW; (try dsimp only at hW); go_simp; try (with_reducible rfl)
 refine wpAnyH_take (i := 6) (v := ?_) rfl (by kernel_rfl) (by kernel_rfl) (by kernel_rfl) (fun _ _ _ h => h) (Or.inl ⟨by kernel_rfl, ?_⟩) HS0 ?_
 rotate_left
 · intro W hW; (try dsimp only at hW); go_simp; try (with_reducible rfl)
 refine wpAnyH_take (i := 7) (v := ?_) rfl (by kernel_rfl) (by kernel_rfl) (by kernel_rfl) (fun _ _ _ h => h) (Or.inl ⟨by kernel_rfl, ?_⟩) HS0 ?_
 rotate_left
 · intro W hW; (try dsimp only at hW); go_simp; try (with_reducible rfl)
 refine wpAnyH_take (i := 8) (v := ?_) rfl (by kernel_rfl) (by kernel_rfl) (by kernel_rfl) (fun _ _ _ h => h) (Or.inl ⟨by kernel_rfl, ?_⟩) HS0 ?_
 rotate_left
 · intro W hW; (try dsimp only at hW); go_simp; try (with_reducible rfl)
 refine wpAnyH_take (i := 9) (v := ?_) rfl (by kernel_rfl) (by kernel_rfl) (by kernel_rfl) (fun _ _ _ h => h) (Or.inl ⟨by kernel_rfl, ?_⟩) HS0 ?_
 rotate_left
 · intro W hW; (try dsimp only at hW); go_simp; try (with_reducible rfl)
 refine wpAnyH_take (i := 10) (v := ?_) rfl (by kernel_rfl) (by kernel_rfl) (by kernel_rfl) (fun _ _ _ h => h) (Or.inl ⟨by kernel_rfl, ?_⟩) HS0 ?_
 rotate_left
 · intro W hW; (try dsimp only at hW); go_simp; try (with_reducible rfl)
 refine wpAnyH_take (i := 11) (v := ?_) rfl (by kernel_rfl) (by kernel_rfl) (by kernel_rfl) (fun _ _ _ h => h) (Or.inl ⟨by kernel_rfl, ?_⟩) HS0 ?_
 rotate_left
 · intro W hW; (try dsimp only at hW); go_simp; try (with_reducible rfl)
 refine wpAnyH_take (i := 12) (v := ?_) rfl (by kernel_rfl) (by kernel_rfl) (by kernel_rfl) (fun _ _ _ h => h) (Or.inl ⟨by kernel_rfl, ?_⟩) HS0 ?_
 rotate_left
 · intro W hW; (try dsimp only at hW); go_simp; try (with_reducible rfl)
 refine wpAnyH_take (i := 13) (v := ?_) rfl (by kernel_rfl) (by kernel_rfl) (by kernel_rfl) (fun _ _ _ h => h) (Or.inl ⟨by kernel_rfl, ?_⟩) HS0 ?_
 rotate_left
 · intro W hW; (try dsimp only at hW); go_simp; try (with_reducible rfl)
 clear HS0
 refine run_oneG (i := 14) (by kernel_rfl) rfl (by kernel_rfl) ?_
 intro K hK
 go_simp
 (with_reducible refine (HCM.out Xx0).mono ?_)
 rintro e Xx1 ⟨rfl, hbx1⟩
 have HBx1 := Lib.hid (below_next (HBx0.out) hbx1)
 refine hK.out _ _ (HKS4.out _ HBx1.out) ?_
 clear hK K
 intro _
 have HS0 := HKS4.out _ (HBx1.out)
 refine wpAnyH_take (i := 15) (v := ?_) rfl (by kernel_rfl) (by kernel_rfl) (by kernel_rfl) (fun _ _ _ h => h) (Or.inl ⟨by kernel_rfl, ?_⟩) HS0 ?_
 rotate_left
 · intro W hW; (try dsimp only at hW); go_simp; try (with_reducible rfl)
 clear HS0
 have HS0 := HKS4.out _ (HBx1.out)
 refine wpAnyH_take (i := 16) (v := ?_) rfl (by kernel_rfl) (by kernel_rfl) (by kernel_rfl) (fun _ _ _ h => h) (Or.inl ⟨by kernel_rfl, ?_⟩) HS0 ?_
 rotate_left
 · intro W hW; (try dsimp only at hW); go_simp; try (with_reducible rfl)
 clear HS0
 refine wpAnyH_done (by kernel_rfl) ?_ _
 refine NoPanic.normal ?_
 (try go_simp)
 obtain ⟨cv, hcv⟩ : ∃ z, z = cmpA x y := ⟨_, rfl⟩
 rw [← hcv]
 by_cases hc : cv < 0
 · have hxy : ltA x y := by unfold ltA; rw [← hcv]; exact hc
   clear hcv
   have hrow2 := HR.out.on (HBx1.out)
   have hfr2 := HF.out.trans (Fr.of_b (may := fun q => q = g) (HBx1.out)) (fun _ _ h => h)
   obtain ⟨wq, rfl⟩ : ∃ W : World, W = Xx1 := ⟨_, rfl⟩
   obtain ⟨x0, x1, x2⟩ := hrow2.at hx
   obtain ⟨y0, y1, y2⟩ := hrow2.at hy
   obtain ⟨W9, hW9⟩ : ∃ V, V = (((((wq.setCell ⟨g, (q + 1) * 3, none⟩ (.int .i64 y.1)).setCell ⟨g, (q + 1) * 3 + 1, none⟩ (.int .i64 y.2.1)).setCell ⟨g, (q + 1) * 3 + 2, none⟩ (.int .i64 y.2.2)).setCell ⟨g, q * 3, none⟩ (.int .i64 x.1)).setCell ⟨g, q * 3 + 1, none⟩ (.int .i64 x.2.1)).setCell ⟨g, q * 3 + 2, none⟩ (.int .i64 x.2.2) := ⟨_, rfl⟩
   have HSW := Lib.hid (show RowA W9.drew g (swL (rot lc (q + 1) i (i + 1)) (q + 1) q) by rw [hW9]; exact (hrow2.swap hx hy).on (Below.refl _ _).drew)
   have HFW := Lib.hid (show Fr (fun q => q = g) w W9.drew by rw [hW9]; exact (hfr2.trans (al_fr wq g ((q + 1) * 3) (q * 3) (.int .i64 y.1) (.int .i64 y.2.1) (.int .i64 y.2.2) (.int .i64 x.1) (.int .i64 x.2.1) (.int .i64 x.2.2)) (fun _ _ h => h)).drew)
   have f0 := hrow2.frozen ((q + 1) * 3)
   have f1 := hrow2.frozen ((q + 1) * 3 + 1)
   have f2 := hrow2.frozen ((q + 1) * 3 + 2)
   have f3' := hrow2.frozen (q * 3)
   have f4 := hrow2.frozen (q * 3 + 1)
   have f5 := hrow2.frozen (q * 3 + 2)
   rw [rot_down hqi (by omega)] at HSW
   clear hrow2 hfr2
   go_wp2_with fail
   go_big_region_o
   rw [← hW9]
   clear hW9 x0 x1 x2 y0 y1 y2 f0 f1 f2 f3' f4 f5
   go_wp2
   go_roundw
   case rel => exact ⟨q, by go_num, by omega, by omega, fun _ z hz => by rw [hlq] at hz; cases hz; exact hxy, HSW.out, HFW.out⟩
   case measure => first | (simp [intOf]; done) | (simp [intOf]; omega)
 · have hyx : ltA y x := ltA_total (HOK2.out.df (p := i) (q := q) (by omega) hli hlq) (by unfold ltA; rw [← hcv]; exact hc)
   clear hcv
   have HSRT := Lib.hid (ins_right ltA_trans (show i < lc.length by omega) (show a ≤ q + 1 by omega) hqi HS.out hli (fun _ z hz => by rw [Nat.add_sub_cancel, hlq] at hz; cases hz; exact hyx) (fun hlt z hz => HG.out hlt z hz))
   have HRN := Lib.hid (HR.out.on (HBx1.out))
   have HFN := Lib.hid (HF.out.trans (Fr.of_b (may := fun q => q = g) (HBx1.out)) (fun _ _ h => h))
   go_wp2
   go_roundw
   case rel => exact ⟨i + 1, _, by go_num, by omega, by omega, HP.out.trans ((rot_perm (by omega) (by omega) (by omega)).within (by omega) (by omega) (by omega) (by omega)), HSRT.out, HRN.out, HFN.out⟩
   case measure => first | (simp [intOf]; done) | (simp [intOf]; omega)
          }
        · obtain rfl : j = a := by omega
          have hjaz : ¬ (j : Int) < (j : Int) := by omega
          have HKS4 := Lib.hid (show ∀ X, Below wj.heap.size wj X → Below wj.heap.size wj X from fun X hX => hX)
          go_wp2_with fail
          skip
          {
 refine wp_region_noPanic ?_
 refine wp_region_held_drew (S := (fun X => Below wj.heap.size wj X)) (by kernel_rfl) (HKS4.out _ (Below.refl _ wj).drew) (fun HS0 => ?_)
 have hbx0 : Below wj.heap.size wj wj.drew := (Below.refl _ _).drew
 obtain ⟨Xx0, hXx0⟩ : ∃ X, X = wj.drew := ⟨_, rfl⟩
 rw [← hXx0] at hbx0 HS0 ⊢
 have HBx0 := Lib.hid hbx0
 clear hbx0 hXx0
 refine wpAnyH_take (i := 0) (v := ?_) rfl (by kernel_rfl) (by kernel_rfl) (by kernel_rfl) (fun _ _ _ h => h) (Or.inl ⟨by kernel_rfl, ?_⟩) HS0 ?_
 rotate_left
 · intro W hW; (try dsimp only at hW); go_simp; try (with_reducible rfl)
 refine wpAnyH_take (i := 1) (v := ?_) rfl (by kernel_rfl) (by kernel_rfl) (by kernel_rfl) (fun _ _ _ h => h) (Or.inl ⟨by kernel_rfl, ?_⟩) HS0 ?_
 rotate_left
 · intro W hW; (try dsimp only at hW); go_simp; try (with_reducible rfl)
 refine wpAnyH_take (i := 2) (v := ?_) rfl (by kernel_rfl) (by kernel_rfl) (by kernel_rfl) (fun _ _ _ h => h) (Or.inl ⟨by kernel_rfl, ?_⟩) HS0 ?_
 rotate_left
 · intro W hW; (try dsimp only at hW); go_simp; try (with_reducible rfl)
 refine wpAnyH_take (i := 3) (v := ?_) rfl (by kernel_rfl) (by kernel_rfl) (by kernel_rfl) (fun _ _ _ h => h) (Or.inl ⟨by kernel_rfl, ?_⟩) HS0 ?_
 rotate_left
 · intro W hW; (try dsimp only at hW); go_simp; try (with_reducible rfl)
 clear HS0
 have HS0 := HKS4.out _ (HBx0.out)
 refine wpAnyH_take (i := 4) (v := undef) rfl (by kernel_rfl) (by kernel_rfl) (by kernel_rfl) (fun _ _ _ h => h) (Or.inr ⟨by kernel_rfl, rfl⟩) HS0 ?_
 clear HS0
 have HS0 := HKS4.out _ (HBx0.out)
 refine wpAnyH_take (i := 5) (v := undef) rfl (by kernel_rfl) (by kernel_rfl) (by kernel_rfl) (fun _ _ _ h => h) (Or.inr ⟨by kernel_rfl, rfl⟩) HS0 ?_
 clear HS0
 have HS0 := HKS4.out _ (HBx0.out)
 refine wpAnyH_take (i := 6) (v := undef) rfl (by kernel_rfl) (by kernel_rfl) (by kernel_rfl) (fun _ _ _ h => h) (Or.inr ⟨by kernel_rfl, rfl⟩) HS0 ?_
 clear HS0
 have HS0 := HKS4.out _ (HBx0.out)
 refine wpAnyH_take (i := 7) (v := undef) rfl (by kernel_rfl) (by kernel_rfl) (by kernel_rfl) (fun _ _ _ h => h) (Or.inr ⟨by kernel_rfl, rfl⟩) HS0 ?_
 clear HS0
 have HS0 := HKS4.out _ (HBx0.out)
 refine wpAnyH_take (i := 8) (v := undef) rfl (by kernel_rfl) (by kernel_rfl) (by kernel_rfl) (fun _ _ _ h => h) (Or.inr ⟨by kernel_rfl, rfl⟩) HS0 ?_
 clear HS0
 have HS0 := HKS4.out _ (HBx0.out)
 refine wpAnyH_take (i := 9) (v := undef) rfl (by kernel_rfl) (by kernel_rfl) (by kernel_rfl) (fun _ _ _ h => h) (Or.inr ⟨by kernel_rfl, rfl⟩) HS0 ?_
 clear HS0
 have HS0 := HKS4.out _ (HBx0.out)
 refine wpAnyH_take (i := 10) (v := undef) rfl (by kernel_rfl) (by kernel_rfl) (by kernel_rfl) (fun _ _ _ h => h) (Or.inr ⟨by kernel_rfl, rfl⟩) HS0 ?_
 clear HS0
 have HS0 := HKS4.out _ (HBx0.out)
 refine wpAnyH_take (i := 11) (v := undef) rfl (by kernel_rfl) (by kernel_rfl) (by kernel_rfl) (fun _ _ _ h => h) (Or.inr ⟨by kernel_rfl, rfl⟩) HS0 ?_
 clear HS0
 have HS0 := HKS4.out _ (HBx0.out)
 refine wpAnyH_take (i := 12) (v := undef) rfl (by kernel_rfl) (by kernel_rfl) (by kernel_rfl) (fun _ _ _ h => h) (Or.inr ⟨by kernel_rfl, rfl⟩) HS0 ?_
 clear HS0
 have HS0 := HKS4.out _ (HBx0.out)
 refine wpAnyH_take (i := 13) (v := undef) rfl (by kernel_rfl) (by kernel_rfl) (by kernel_rfl) (fun _ _ _ h => h) (Or.inr ⟨by kernel_rfl, rfl⟩) HS0 ?_
 clear HS0
 have HS0 := HKS4.out _ (HBx0.out)
 refine wpAnyH_take (i := 14) (v := undef) rfl (by kernel_rfl) (by kernel_rfl) (by kernel_rfl) (fun _ _ _ h => h) (Or.inr ⟨by kernel_rfl, rfl⟩) HS0 ?_
 clear HS0
 have HS0 := HKS4.out _ (HBx0.out)
 refine wpAnyH_take (i := 15) (v := undef) rfl (by kernel_rfl) (by kernel_rfl) (by kernel_rfl) (fun _ _ _ h => h) (Or.inr ⟨by kernel_rfl, rfl⟩) HS0 ?_
 clear HS0
 have HS0 := HKS4.out _ (HBx0.out)
 refine wpAnyH_take (i := 16) (v := ?_) rfl (by kernel_rfl) (by kernel_rfl) (by kernel_rfl) (fun _ _ _ h => h) (Or.inl ⟨by kernel_rfl, ?_⟩) HS0 ?_
 rotate_left
 · intro W hW; (try dsimp only at hW); go_simp; try (with_reducible rfl)
 clear HS0
 refine wpAnyH_done (by kernel_rfl) ?_ _
 refine NoPanic.normal ?_
 (try go_simp)
 have HSRT := Lib.hid (ins_right ltA_trans (show i < lc.length by omega) (Nat.le_refl j) (show j ≤ i by omega) HS.out hli (fun h => absurd h (Nat.lt_irrefl _)) (fun hlt z hz => HG.out hlt z hz))
 have HRN := Lib.hid (HR.out.on (HBx0.out))
 have HFN := Lib.hid (HF.out.trans (Fr.of_b (may := fun q => q = g) (HBx0.out)) (fun _ _ h => h))
 go_wp2
 go_roundw
 case rel => exact ⟨i + 1, _, by go_num, by omega, by omega, HP.out.trans ((rot_perm (by omega) (by omega) (by omega)).within (by omega) (by omega) (by omega) (by omega)), HSRT.out, HRN.out, HFN.out⟩
 case measure => simp [intOf]; omega
          }
    · have hibz : ¬ (i : Int) < (b : Int) := by omega
      have HSR := Lib.hid (HS.out.sub (i' := a) (j' := b) (Nat.le_refl _) (by omega))
      go_wp2
      go_end0
      exact ⟨rfl, lc, HR0.out, HP.out, HSR.out, HF0.out⟩
end Go.Proofs.YtnpfdelklolchaaGreatDoor
