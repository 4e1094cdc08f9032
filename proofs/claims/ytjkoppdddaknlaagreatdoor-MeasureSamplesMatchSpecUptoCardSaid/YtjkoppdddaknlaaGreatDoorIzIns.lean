/- slices.insertionSortCmpFunc at numbers. Printed by gen_stins.py. -/
import Derived.Test.YtjkoppdddaknlaaGreatDoorG6
namespace Go.Proofs.YtjkoppdddaknlaaGreatDoor
open Go Go.RowKit Go.Proofs

set_option maxHeartbeats 8000000 in
set_option maxRecDepth 100000 in
theorem izIns_any (dt : Nat → Int) (nS : Nat) (cap : Value) (g c a b : Nat) (l : List Nat) (w : World) (h : RowC dt nS cap w g l) (hab : a ≤ b) (hb : b ≤ l.length) (hl : l.length ≤ 1000000) (hok : OkI dt nS l) :
    Calls Tryz.prog 67 #[.slice (some ⟨g, 0, none⟩) l.length c, .int .i64 (a : Int), .int .i64 (b : Int), .func (.func 34) #[] #[cap]] w fun e w' => e = .returned (.tuple #[]) ∧ ∃ l', RowC dt nS cap w' g l' ∧ PrmI dt nS l l' a b ∧ SrtOn (ltW dt) l' a b ∧ Fr (fun q => q = g) w w' := by
  have H0 := Lib.hid h
  have HOK := Lib.hid hok
  have mixed : Tryz.prog.follows Departure.mixedOrders = true := by kernel_rfl
  clear h hok
  go_enter Tryz.func67, Tryz.ntmps67
  go_wp2
  go_loopw [8] (fun iv wr => ∃ (i : Nat) (lc : List Nat), iv = .int .i64 (i : Int) ∧ a + 1 ≤ i ∧ i ≤ b + 1 ∧ PrmI dt nS l lc a b ∧ SrtOn (ltW dt) lc a i ∧ RowC dt nS cap wr g lc ∧ Fr (fun q => q = g) w wr) (fun iv _ => b + 1 - (intOf iv).toNat)
  case atStart => exact ⟨a + 1, l, by go_num, Nat.le_refl _, by omega, PrmI.refl _ _ _, SrtOn.empty _ (by omega), H0.out, Fr.refl _ _⟩
  case round =>
    obtain ⟨i, lc, rfl, hi1, hi2, hp, hs, hrow, hfr⟩ := hrel
    have HP := Lib.hid hp
    have HS := Lib.hid hs
    have HR0 := Lib.hid hrow
    have HF0 := Lib.hid hfr
    have hlen := hp.len
    clear hp hs hrow hfr H0
    by_cases hib : i < b
    · have hibz : (i : Int) < (b : Int) := by omega
      have HOK2 := Lib.hid (HOK.out.perm (HP.out.all hab))
      obtain ⟨x, hli⟩ : ∃ x, lc[i]? = some x := ⟨_, List.getElem?_eq_getElem (by omega)⟩
      go_wp2
      go_loopw [9] (fun jv wr => ∃ j : Nat, jv = .int .i64 (j : Int) ∧ a ≤ j ∧ j ≤ i ∧ (j < i → ∀ z, lc[j]? = some z → ltW dt x z) ∧ RowC dt nS cap wr g (rot lc j i (i + 1)) ∧ Fr (fun q => q = g) w wr) (fun jv _ => (intOf jv).toNat)
      case atStart => exact ⟨i, rfl, by omega, Nat.le_refl _, fun h => absurd h (Nat.lt_irrefl _), by rw [rot_start' (by omega)]; exact HR0.out, HF0.out⟩
      case round =>
        obtain ⟨j, rfl, hj1, hj2, hg, hrow, hfr⟩ := hrel
        have HG := Lib.hid hg
        have HR := Lib.hid hrow
        have HF := Lib.hid hfr
        clear hg hrow hfr HR0 HF0
        obtain ⟨wj, rfl⟩ : ∃ W : World, W = wr := ⟨_, rfl⟩
        by_cases hja : a < j
        · obtain ⟨q, rfl⟩ : ∃ q, j = q + 1 := ⟨j - 1, by omega⟩
          have hqi : q + 1 ≤ i := hj2
          obtain ⟨y, hlq⟩ : ∃ y, lc[q]? = some y := ⟨_, List.getElem?_eq_getElem (by omega)⟩
          have hx : (rot lc (q + 1) i (i + 1))[q + 1]? = some x := by
            rw [rot_lo (by omega) (by omega) (by omega) (Nat.le_refl _) (by omega), show q + 1 - (q + 1) + i = i by omega]; exact hli
          have hy : (rot lc (q + 1) i (i + 1))[q]? = some y := by
            rw [rot_out (by omega) (by omega) (by omega) (.inl (by omega))]; exact hlq
          have HKS4 := Lib.hid (show ∀ X, Below wj.heap.size wj X → (fun X => Below wj.heap.size wj X ∧ X.cell? ⟨g, (q + 1), none⟩ = some (.int .i64 (x : Int)) ∧ X.cell? ⟨g, q, none⟩ = some (.int .i64 (y : Int))) X from fun X hX => by
            have a0 := HR.out.drw hX hx
            have b0 := HR.out.drw hX hy
            exact ⟨hX, a0, b0⟩)
          have HCM := Lib.hid (fun X (hX : Below wj.heap.size wj X) => (HR.out.on hX).cmp x y (HOK2.out.sm hli) (HOK2.out.sm hlq))
          have hja' : (a : Int) < (q : Int) + 1 := by omega
          have hja3 : a < q + 1 := hja
          have hj0 : (0 : Int) ≤ (q : Int) := by omega
          have hj1' : (q : Int) < (l.length : Int) := by omega
          have hj2' : (q : Int) + 1 < (l.length : Int) := by omega
          have hj3' : (0 : Int) ≤ (q : Int) + 1 := by omega
          have hj4' : q + 1 < l.length := by omega
          have hj5' : q < l.length := by omega
          have hw1 : IntKind.i64.wrap ((q : Int) + 1 - 1) = (q : Int) := by rw [IntWalk.i64_in _ (by omega)]; omega
          have hw2 : IntKind.i64.wrap (q : Int) = (q : Int) := IntWalk.i64_in _ (by omega)
          go_wp2_with fail
          skip
          {
 refine wp_region_noPanic ?_
 refine wp_region_held_drew (S := (fun X => Below wj.heap.size wj X ∧ X.cell? ⟨g, (q + 1), none⟩ = some (.int .i64 (x : Int)) ∧ X.cell? ⟨g, q, none⟩ = some (.int .i64 (y : Int)))) (by kernel_rfl) (HKS4.out _ (Below.refl _ wj).drew) (fun HS0 => ?_)
 have hbx0 : Below wj.heap.size wj wj.drew := (Below.refl _ _).drew
 obtain ⟨Xx0, hXx0⟩ : ∃ X, X = wj.drew := ⟨_, rfl⟩
 rw [← hXx0] at hbx0 HS0 ⊢
 have HBx0 := Lib.hid hbx0
 clear hbx0 hXx0
 refine wpAnyH_take (i := 0) (v := ?_) rfl (by kernel_rfl) (by kernel_rfl) (by kernel_rfl) (fun _ _ _ h => h) (Or.inl ⟨by kernel_rfl, ?_⟩) HS0 ?_
 rotate_left
 · intro W hW; (try dsimp only at hW); go_simp; try (with_reducible rfl)
 refine wpAnyH_take (i := 1) (v := ?_) rfl (by kernel_rfl) (by kernel_rfl) (by kernel_rfl) (fun _ _ _ h => h) (Or.inl ⟨by kernel_rfl, ?_⟩) HS0 ?_
 rotate_left
 · intro W hW; (try dsimp only at hW); go_simp; try (with_reducible rfl)
 refine wpAnyH_take (i := 2) (v := ?_) rfl (by kernel_rfl) (by kernel_rfl) (by kernel_rfl) (fun _ _ _ h => h) (Or.inl ⟨by kernel_rfl, ?_⟩) HS0 ?_
 rotate_left
 · intro W hW; (try dsimp only at hW); go_simp; try (with_reducible rfl)
 refine wpAnyH_take (i := 3) (v := ?_) rfl (by kernel_rfl) (by kernel_rfl) (by kernel_rfl) (fun _ _ _ h => h) (Or.inl ⟨by kernel_rfl, ?_⟩) HS0 ?_
 rotate_left
 · intro W hW; (try dsimp only at hW); go_simp; try (with_reducible rfl)
 refine wpAnyH_take (i := 4) (v := ?_) rfl (by kernel_rfl) (by kernel_rfl) (by kernel_rfl) (fun _ _ _ h => h) (Or.inl ⟨by kernel_rfl, ?_⟩) HS0 ?_
 rotate_left
 · intro W hW; (try dsimp only at hW); go_simp; try (with_reducible rfl)
 refine wpAnyH_take (i := 5) (v := ?_) rfl (by kernel_rfl) (by kernel_rfl) (by kernel_rfl) (fun _ _ _ h => h) (Or.inl ⟨by kernel_rfl, ?_⟩) HS0 ?_
 rotate_left
 · intro W hW; (try dsimp only at hW); go_simp; try (with_reducible rfl)
 refine wpAnyH_take (i := 6) (v := ?_) rfl (by kernel_rfl) (by kernel_rfl) (by kernel_rfl) (fun _ _ _ h => h) (Or.inl ⟨by kernel_rfl, ?_⟩) HS0 ?_
 rotate_left
 · intro W hW; (try dsimp only at hW); go_simp; try (with_reducible rfl)
 refine wpAnyH_take (i := 7) (v := ?_) rfl (by kernel_rfl) (by kernel_rfl) (by kernel_rfl) (fun _ _ _ h => h) (Or.inl ⟨by kernel_rfl, ?_⟩) HS0 ?_
 rotate_left
 · intro W hW; (try dsimp only at hW); go_simp; try (with_reducible rfl)
 refine wpAnyH_take (i := 8) (v := ?_) rfl (by kernel_rfl) (by kernel_rfl) (by kernel_rfl) (fun _ _ _ h => h) (Or.inl ⟨by kernel_rfl, ?_⟩) HS0 ?_
 rotate_left
 · intro W hW; (try dsimp only at hW); go_simp; try (with_reducible rfl)
 refine wpAnyH_take (i := 9) (v := ?_) rfl (by kernel_rfl) (by kernel_rfl) (by kernel_rfl) (fun _ _ _ h => h) (Or.inl ⟨by kernel_rfl, ?_⟩) HS0 ?_
 rotate_left
 · intro W hW; (try dsimp only at hW); go_simp; try (with_reducible rfl)
 refine wpAnyH_take (i := 10) (v := ?_) rfl (by kernel_rfl) (by kernel_rfl) (by kernel_rfl) (fun _ _ _ h => h) (Or.inl ⟨by kernel_rfl, ?_⟩) HS0 ?_
 rotate_left
 · intro W hW; (try dsimp only at hW); go_simp; try (with_reducible rfl)
 refine wpAnyH_take (i := 11) (v := ?_) rfl (by kernel_rfl) (by kernel_rfl) (by kernel_rfl) (fun _ _ _ h => h) (Or.inl ⟨by kernel_rfl, ?_⟩) HS0 ?_
 rotate_left
 · intro W hW; (try dsimp only at hW); go_simp; try (with_reducible rfl)
 refine wpAnyH_take (i := 12) (v := ?_) rfl (by kernel_rfl) (by kernel_rfl) (by kernel_rfl) (fun _ _ _ h => h) (Or.inl ⟨by kernel_rfl, ?_⟩) HS0 ?_
 rotate_left
 · intro W hW; (try dsimp only at hW); go_simp; try (with_reducible rfl)
 refine wpAnyH_take (i := 13) (v := ?_) rfl (by kernel_rfl) (by kernel_rfl) (by kernel_rfl) (fun _ _ _ h => h) (Or.inl ⟨by kernel_rfl, ?_⟩) HS0 ?_
 rotate_left
 · intro W hW; (try dsimp only at hW); go_simp; try (with_reducible rfl)
 clear HS0
 refine run_oneG (i := 14) (by kernel_rfl) rfl (by kernel_rfl) ?_
 intro K hK
 go_simp
 (with_reducible refine (HCM.out Xx0 HBx0.out).mono ?_)
 rintro e Xx1 ⟨rfl, hbx1⟩
 have HBx1 := Lib.hid (below_next (HBx0.out) hbx1)
 refine hK.out _ _ (HKS4.out _ HBx1.out) ?_
 clear hK K
 intro _
 have HS0 := HKS4.out _ (HBx1.out)
 refine wpAnyH_take (i := 15) (v := ?_) rfl (by kernel_rfl) (by kernel_rfl) (by kernel_rfl) (fun _ _ _ h => h) (Or.inl ⟨by kernel_rfl, ?_⟩) HS0 ?_
 rotate_left
 · intro W hW; (try dsimp only at hW); go_simp; try (with_reducible rfl)
 clear HS0
 have HS0 := HKS4.out _ (HBx1.out)
 refine wpAnyH_take (i := 16) (v := ?_) rfl (by kernel_rfl) (by kernel_rfl) (by kernel_rfl) (fun _ _ _ h => h) (Or.inl ⟨by kernel_rfl, ?_⟩) HS0 ?_
 rotate_left
 · intro W hW; (try dsimp only at hW); go_simp; try (with_reducible rfl)
 clear HS0
 refine wpAnyH_done (by kernel_rfl) ?_ _
 refine NoPanic.normal ?_
 (try go_simp)
 obtain ⟨cv, hcv⟩ : ∃ z, z = cmpW dt x y := ⟨_, rfl⟩
 rw [← hcv]
 by_cases hc : cv < 0
 · have hxy : ltW dt x y := cmpW_lt (by rw [← hcv]; exact hc)
   clear hcv
   have hrow2 := HR.out.on (HBx1.out)
   have hfr2 := HF.out.trans (Fr.of_b (may := fun q => q = g) (HBx1.out)) (fun _ _ h => h)
   obtain ⟨wq, rfl⟩ : ∃ W : World, W = Xx1 := ⟨_, rfl⟩
   have x0 := hrow2.at hx
   have y0 := hrow2.at hy
   obtain ⟨W9, hW9⟩ : ∃ V, V = (wq.setCell ⟨g, (q + 1), none⟩ (.int .i64 (y : Int))).setCell ⟨g, q, none⟩ (.int .i64 (x : Int)) := ⟨_, rfl⟩
   have HSW := Lib.hid (show RowC dt nS cap W9.drew g (swL (rot lc (q + 1) i (i + 1)) (q + 1) q) by rw [hW9]; exact (hrow2.swap hx hy).on (Below.refl _ _).drew)
   have HFW := Lib.hid (show Fr (fun q => q = g) w W9.drew by rw [hW9]; exact (hfr2.trans (iz_fr wq g (q + 1) q (.int .i64 (y : Int)) (.int .i64 (x : Int))) (fun _ _ h => h)).drew)
   have f0 := hrow2.frozen (q + 1)
   have f3' := hrow2.frozen q
   rw [rot_down hqi (by omega)] at HSW
   clear hrow2 hfr2
   go_wp2_with fail
   go_big_region_o
   rw [← hW9]
   clear hW9 x0 y0 f0 f3'
   go_wp2
   go_roundw
   case rel => exact ⟨q, by go_num, by omega, by omega, fun _ z hz => by rw [hlq] at hz; cases hz; exact hxy, HSW.out, HFW.out⟩
   case measure => first | (simp [intOf]; done) | (simp [intOf]; omega)
 · have hyx : ltW dt y x := HOK2.out.nlt (p := q) (q := i) (by omega) hlq hli (by rw [← hcv]; exact hc)
   clear hcv
   have HSRT := Lib.hid (ins_right (izT dt) (show i < lc.length by omega) (show a ≤ q + 1 by omega) hqi HS.out hli (fun _ z hz => by rw [Nat.add_sub_cancel, hlq] at hz; cases hz; exact hyx) (fun hlt z hz => HG.out hlt z hz))
   have HRN := Lib.hid (HR.out.on (HBx1.out))
   have HFN := Lib.hid (HF.out.trans (Fr.of_b (may := fun q => q = g) (HBx1.out)) (fun _ _ h => h))
   go_wp2
   go_roundw
   case rel => exact ⟨i + 1, _, by go_num, by omega, by omega, HP.out.trans ((PrmI.ofS ((rot_perm (by omega) (by omega) (by omega)).within (by omega) (by omega) (by omega) (by omega)) (by omega) (by omega) HSRT.out).within (by omega) (by omega) (by omega) (by omega)), HSRT.out, HRN.out, HFN.out⟩
   case measure => first | (simp [intOf]; done) | (simp [intOf]; omega)
          }
        · obtain rfl : j = a := by omega
          have hjaz : ¬ (j : Int) < (j : Int) := by omega
          have HKS4 := Lib.hid (show ∀ X, Below wj.heap.size wj X → Below wj.heap.size wj X from fun X hX => hX)
          go_wp2_with fail
          skip
          {
 refine wp_region_noPanic ?_
 refine wp_region_held_drew (S := (fun X => Below wj.heap.size wj X)) (by kernel_rfl) (HKS4.out _ (Below.refl _ wj).drew) (fun HS0 => ?_)
 have hbx0 : Below wj.heap.size wj wj.drew := (Below.refl _ _).drew
 obtain ⟨Xx0, hXx0⟩ : ∃ X, X = wj.drew := ⟨_, rfl⟩
 rw [← hXx0] at hbx0 HS0 ⊢
 have HBx0 := Lib.hid hbx0
 clear hbx0 hXx0
 refine wpAnyH_take (i := 0) (v := ?_) rfl (by kernel_rfl) (by kernel_rfl) (by kernel_rfl) (fun _ _ _ h => h) (Or.inl ⟨by kernel_rfl, ?_⟩) HS0 ?_
 rotate_left
 · intro W hW; (try dsimp only at hW); go_simp; try (with_reducible rfl)
 refine wpAnyH_take (i := 1) (v := ?_) rfl (by kernel_rfl) (by kernel_rfl) (by kernel_rfl) (fun _ _ _ h => h) (Or.inl ⟨by kernel_rfl, ?_⟩) HS0 ?_
 rotate_left
 · intro W hW; (try dsimp only at hW); go_simp; try (with_reducible rfl)
 refine wpAnyH_take (i := 2) (v := ?_) rfl (by kernel_rfl) (by kernel_rfl) (by kernel_rfl) (fun _ _ _ h => h) (Or.inl ⟨by kernel_rfl, ?_⟩) HS0 ?_
 rotate_left
 · intro W hW; (try dsimp only at hW); go_simp; try (with_reducible rfl)
 refine wpAnyH_take (i := 3) (v := ?_) rfl (by kernel_rfl) (by kernel_rfl) (by kernel_rfl) (fun _ _ _ h => h) (Or.inl ⟨by kernel_rfl, ?_⟩) HS0 ?_
 rotate_left
 · intro W hW; (try dsimp only at hW); go_simp; try (with_reducible rfl)
 clear HS0
 have HS0 := HKS4.out _ (HBx0.out)
 refine wpAnyH_take (i := 4) (v := undef) rfl (by kernel_rfl) (by kernel_rfl) (by kernel_rfl) (fun _ _ _ h => h) (Or.inr ⟨by kernel_rfl, rfl⟩) HS0 ?_
 clear HS0
 have HS0 := HKS4.out _ (HBx0.out)
 refine wpAnyH_take (i := 5) (v := undef) rfl (by kernel_rfl) (by kernel_rfl) (by kernel_rfl) (fun _ _ _ h => h) (Or.inr ⟨by kernel_rfl, rfl⟩) HS0 ?_
 clear HS0
 have HS0 := HKS4.out _ (HBx0.out)
 refine wpAnyH_take (i := 6) (v := undef) rfl (by kernel_rfl) (by kernel_rfl) (by kernel_rfl) (fun _ _ _ h => h) (Or.inr ⟨by kernel_rfl, rfl⟩) HS0 ?_
 clear HS0
 have HS0 := HKS4.out _ (HBx0.out)
 refine wpAnyH_take (i := 7) (v := undef) rfl (by kernel_rfl) (by kernel_rfl) (by kernel_rfl) (fun _ _ _ h => h) (Or.inr ⟨by kernel_rfl, rfl⟩) HS0 ?_
 clear HS0
 have HS0 := HKS4.out _ (HBx0.out)
 refine wpAnyH_take (i := 8) (v := undef) rfl (by kernel_rfl) (by kernel_rfl) (by kernel_rfl) (fun _ _ _ h => h) (Or.inr ⟨by kernel_rfl, rfl⟩) HS0 ?_
 clear HS0
 have HS0 := HKS4.out _ (HBx0.out)
 refine wpAnyH_take (i := 9) (v := undef) rfl (by kernel_rfl) (by kernel_rfl) (by kernel_rfl) (fun _ _ _ h => h) (Or.inr ⟨by kernel_rfl, rfl⟩) HS0 ?_
 clear HS0
 have HS0 := HKS4.out _ (HBx0.out)
 refine wpAnyH_take (i := 10) (v := undef) rfl (by kernel_rfl) (by kernel_rfl) (by kernel_rfl) (fun _ _ _ h => h) (Or.inr ⟨by kernel_rfl, rfl⟩) HS0 ?_
 clear HS0
 have HS0 := HKS4.out _ (HBx0.out)
 refine wpAnyH_take (i := 11) (v := undef) rfl (by kernel_rfl) (by kernel_rfl) (by kernel_rfl) (fun _ _ _ h => h) (Or.inr ⟨by kernel_rfl, rfl⟩) HS0 ?_
 clear HS0
 have HS0 := HKS4.out _ (HBx0.out)
 refine wpAnyH_take (i := 12) (v := undef) rfl (by kernel_rfl) (by kernel_rfl) (by kernel_rfl) (fun _ _ _ h => h) (Or.inr ⟨by kernel_rfl, rfl⟩) HS0 ?_
 clear HS0
 have HS0 := HKS4.out _ (HBx0.out)
 refine wpAnyH_take (i := 13) (v := undef) rfl (by kernel_rfl) (by kernel_rfl) (by kernel_rfl) (fun _ _ _ h => h) (Or.inr ⟨by kernel_rfl, rfl⟩) HS0 ?_
 clear HS0
 have HS0 := HKS4.out _ (HBx0.out)
 refine wpAnyH_take (i := 14) (v := undef) rfl (by kernel_rfl) (by kernel_rfl) (by kernel_rfl) (fun _ _ _ h => h) (Or.inr ⟨by kernel_rfl, rfl⟩) HS0 ?_
 clear HS0
 have HS0 := HKS4.out _ (HBx0.out)
 refine wpAnyH_take (i := 15) (v := undef) rfl (by kernel_rfl) (by kernel_rfl) (by kernel_rfl) (fun _ _ _ h => h) (Or.inr ⟨by kernel_rfl, rfl⟩) HS0 ?_
 clear HS0
 have HS0 := HKS4.out _ (HBx0.out)
 refine wpAnyH_take (i := 16) (v := ?_) rfl (by kernel_rfl) (by kernel_rfl) (by kernel_rfl) (fun _ _ _ h => h) (Or.inl ⟨by kernel_rfl, ?_⟩) HS0 ?_
 rotate_left
 · intro W hW; (try dsimp only at hW); go_simp; try (with_reducible rfl)
 clear HS0
 refine wpAnyH_done (by kernel_rfl) ?_ _
 refine NoPanic.normal ?_
 (try go_simp)
 have HSRT := Lib.hid (ins_right (izT dt) (show i < lc.length by omega) (Nat.le_refl j) (show j ≤ i by omega) HS.out hli (fun h => absurd h (Nat.lt_irrefl _)) (fun hlt z hz => HG.out hlt z hz))
 have HRN := Lib.hid (HR.out.on (HBx0.out))
 have HFN := Lib.hid (HF.out.trans (Fr.of_b (may := fun q => q = g) (HBx0.out)) (fun _ _ h => h))
 go_wp2
 go_roundw
 case rel => exact ⟨i + 1, _, by go_num, by omega, by omega, HP.out.trans ((PrmI.ofS ((rot_perm (by omega) (by omega) (by omega)).within (by omega) (by omega) (by omega) (by omega)) (by omega) (by omega) HSRT.out).within (by omega) (by omega) (by omega) (by omega)), HSRT.out, HRN.out, HFN.out⟩
 case measure => simp [intOf]; omega
          }
    · have hibz : ¬ (i : Int) < (b : Int) := by omega
      have HSR := Lib.hid (HS.out.sub (i' := a) (j' := b) (Nat.le_refl _) (by omega))
      go_wp2
      go_end0
      exact ⟨rfl, lc, HR0.out, HP.out, HSR.out, HF0.out⟩
end Go.Proofs.YtjkoppdddaknlaaGreatDoor
