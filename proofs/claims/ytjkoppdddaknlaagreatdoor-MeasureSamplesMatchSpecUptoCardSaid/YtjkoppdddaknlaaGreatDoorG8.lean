import Derived.Test.YtjkoppdddaknlaaGreatDoorIzIns
/- slices.symMergeCmpFunc at numbers where the first part has one element. Printed by gen_stsym.py. -/
namespace Go.Proofs.YtjkoppdddaknlaaGreatDoor
open Go Go.RowKit Go.Proofs

set_option maxHeartbeats 8000000 in
set_option maxRecDepth 100000 in
theorem izSymL_any (dt : Nat → Int) (nS : Nat) (cap : Value) (g c a m b : Nat) (l : List Nat) (w : World) (h : RowC dt nS cap w g l) (ham : m = a + 1) (hmb : m < b) (hb : b ≤ l.length) (hl : l.length ≤ 1000000) (hok : OkI dt nS l) (hs : SrtOn (ltW dt) l m b) :
    Calls Tryz.prog 68 #[.slice (some ⟨g, 0, none⟩) l.length c, .int .i64 (a : Int), .int .i64 (m : Int), .int .i64 (b : Int), .func (.func 34) #[] #[cap]] w fun e w' => e = .returned (.tuple #[]) ∧ ∃ l', RowC dt nS cap w' g l' ∧ PrmI dt nS l l' a b ∧ SrtOn (ltW dt) l' a b ∧ Fr (fun q => q = g) w w' := by
  have H0 := Lib.hid h
  have HOK := Lib.hid hok
  have mixed : Tryz.prog.follows Departure.mixedOrders = true := by kernel_rfl
  have hw0 : IntKind.i64.wrap ((m : Int) - (a : Int)) = 1 := by rw [IntWalk.i64_in _ (by omega)]; omega
  have HM := Lib.hid ham
  have HS := Lib.hid hs
  obtain ⟨x, hla⟩ : ∃ x, l[a]? = some x := ⟨_, List.getElem?_eq_getElem (by omega)⟩
  have ham' : a < m := by omega
  clear h hok ham hs
  go_enter Tryz.func68, Tryz.ntmps68
  go_wp2
  go_loopw [10, 11] (fun iv jv wr => ∃ i j : Nat, iv = .int .i64 (i : Int) ∧ jv = .int .i64 (j : Int) ∧ m ≤ i ∧ i ≤ j ∧ j ≤ b ∧ (m < i → ∀ z, l[i - 1]? = some z → ltW dt z x) ∧ (j < b → ∀ z, l[j]? = some z → ltW dt x z) ∧ RowC dt nS cap wr g l ∧ Fr (fun q => q = g) w wr) (fun iv jv _ => (intOf jv).toNat - (intOf iv).toNat)
  case atStart => exact ⟨m, b, rfl, rfl, Nat.le_refl _, by omega, Nat.le_refl _, fun h => absurd h (Nat.lt_irrefl _), fun h => absurd h (Nat.lt_irrefl _), H0.out, Fr.refl _ _⟩
  case round =>
    obtain ⟨i, j, rfl, rfl, hi, hij, hj, hg1, hg2, hrow, hfr⟩ := hrel
    have HG1 := Lib.hid hg1
    have HG2 := Lib.hid hg2
    have HR := Lib.hid hrow
    have HF := Lib.hid hfr
    clear hg1 hg2 hrow hfr H0
    by_cases hlt : i < j
    · have hltz : (i : Int) < (j : Int) := by omega
      obtain ⟨wj, rfl⟩ : ∃ W : World, W = wr := ⟨_, rfl⟩
      obtain ⟨q, hq⟩ : ∃ q, q = (i + j) / 2 := ⟨_, rfl⟩
      have hh : ((i : Int) + (j : Int)) / 2 = (q : Int) := by omega
      have hq1 : i ≤ q := by omega
      have hq2 : q < j := by omega
      clear hq
      obtain ⟨y, hlq⟩ : ∃ y, l[q]? = some y := ⟨_, List.getElem?_eq_getElem (by omega)⟩
      have HKS5 := Lib.hid (show ∀ X, Below wj.heap.size wj X → (fun X => Below wj.heap.size wj X ∧ X.cell? ⟨g, q, none⟩ = some (.int .i64 (y : Int)) ∧ X.cell? ⟨g, a, none⟩ = some (.int .i64 (x : Int))) X from fun X hX => by
        have a0 := HR.out.drw hX hlq
        have b0 := HR.out.drw hX hla
        exact ⟨hX, a0, b0⟩)
      have HCM := Lib.hid (fun X (hX : Below wj.heap.size wj X) => (HR.out.on hX).cmp y x (HOK.out.sm hlq) (HOK.out.sm hla))
      have hj0 : (0 : Int) ≤ (q : Int) := by omega
      have hj1' : (q : Int) < (l.length : Int) := by omega
      have hj5' : q < l.length := by omega
      have ha1' : (a : Int) < (l.length : Int) := by omega
      have ha5' : a < l.length := by omega
      go_wp2_with fail
      skip
      {
 refine wp_region_noPanic ?_
 refine wp_region_held_drew (S := (fun X => Below wj.heap.size wj X ∧ X.cell? ⟨g, q, none⟩ = some (.int .i64 (y : Int)) ∧ X.cell? ⟨g, a, none⟩ = some (.int .i64 (x : Int)))) (by kernel_rfl) (HKS5.out _ (Below.refl _ wj).drew) (fun HS0 => ?_)
 have hbx0 : Below wj.heap.size wj wj.drew := (Below.refl _ _).drew
 obtain ⟨Xx0, hXx0⟩ : ∃ X, X = wj.drew := ⟨_, rfl⟩
 rw [← hXx0] at hbx0 HS0 ⊢
 have HBx0 := Lib.hid hbx0
 clear hbx0 hXx0
 refine wpAnyH_take (i := 0) (v := ?_) rfl (by kernel_rfl) (by kernel_rfl) (by kernel_rfl) (fun _ _ _ h => h) (Or.inl ⟨by kernel_rfl, ?_⟩) HS0 ?_
 rotate_left
 · intro W hW; (try dsimp only at hW); go_simp; try (with_reducible rfl)
 refine wpAnyH_take (i := 1) (v := ?_) rfl (by kernel_rfl) (by kernel_rfl) (by kernel_rfl) (fun _ _ _ h => h) (Or.inl ⟨by kernel_rfl, ?_⟩) HS0 ?_
 rotate_left
 · intro W hW; (try dsimp only at hW); go_simp; try (with_reducible rfl)
 refine wpAnyH_take (i := 2) (v := ?_) rfl (by kernel_rfl) (by kernel_rfl) (by kernel_rfl) (fun _ _ _ h => h) (Or.inl ⟨by kernel_rfl, ?_⟩) HS0 ?_
 rotate_left
 · intro W hW; (try dsimp only at hW); go_simp; try (with_reducible rfl)
 refine wpAnyH_take (i := 3) (v := ?_) rfl (by kernel_rfl) (by kernel_rfl) (by kernel_rfl) (fun _ _ _ h => h) (Or.inl ⟨by kernel_rfl, ?_⟩) HS0 ?_
 rotate_left
 · intro W hW; (try dsimp only at hW); go_simp; try (with_reducible rfl)
 refine wpAnyH_take (i := 4) (v := ?_) rfl (by kernel_rfl) (by kernel_rfl) (by kernel_rfl) (fun _ _ _ h => h) (Or.inl ⟨by kernel_rfl, ?_⟩) HS0 ?_
 rotate_left
 · intro W hW; (try dsimp only at hW); go_simp; try (with_reducible rfl)
 refine wpAnyH_take (i := 5) (v := ?_) rfl (by kernel_rfl) (by kernel_rfl) (by kernel_rfl) (fun _ _ _ h => h) (Or.inl ⟨by kernel_rfl, ?_⟩) HS0 ?_
 rotate_left
 · intro W hW; (try dsimp only at hW); go_simp; try (with_reducible rfl)
 refine wpAnyH_take (i := 6) (v := ?_) rfl (by kernel_rfl) (by kernel_rfl) (by kernel_rfl) (fun _ _ _ h => h) (Or.inl ⟨by kernel_rfl, ?_⟩) HS0 ?_
 rotate_left
 · intro W hW; (try dsimp only at hW); go_simp; try (with_reducible rfl)
 refine wpAnyH_take (i := 7) (v := ?_) rfl (by kernel_rfl) (by kernel_rfl) (by kernel_rfl) (fun _ _ _ h => h) (Or.inl ⟨by kernel_rfl, ?_⟩) HS0 ?_
 rotate_left
 · intro W hW; (try dsimp only at hW); go_simp; try (with_reducible rfl)
 refine wpAnyH_take (i := 8) (v := ?_) rfl (by kernel_rfl) (by kernel_rfl) (by kernel_rfl) (fun _ _ _ h => h) (Or.inl ⟨by kernel_rfl, ?_⟩) HS0 ?_
 rotate_left
 · intro W hW; (try dsimp only at hW); go_simp; try (with_reducible rfl)
 clear HS0
 refine run_one (i := 9) (by kernel_rfl) rfl rfl ?_
 intro K hK
 go_simp
 (with_reducible refine (HCM.out Xx0 HBx0.out).mono ?_)
 rintro e Xx1 ⟨rfl, hbx1⟩
 have HBx1 := Lib.hid (below_next (HBx0.out) hbx1)
 refine hK.out _ _ (HKS5.out _ HBx1.out) ?_
 clear hK K
 intro _
 have HS0 := HKS5.out _ (HBx1.out)
 refine wpAnyH_take (i := 10) (v := ?_) rfl (by kernel_rfl) (by kernel_rfl) (by kernel_rfl) (fun _ _ _ h => h) (Or.inl ⟨by kernel_rfl, ?_⟩) HS0 ?_
 rotate_left
 · intro W hW; (try dsimp only at hW); go_simp; try (with_reducible rfl)
 clear HS0
 refine wpAnyH_done (by kernel_rfl) ?_ _
 refine NoPanic.normal ?_
 (try go_simp)
 obtain ⟨cv, hcv⟩ : ∃ z, z = cmpW dt y x := ⟨_, rfl⟩
 rw [← hcv]
 have HRN := Lib.hid (HR.out.on (HBx1.out))
 have HFN := Lib.hid (HF.out.trans (Fr.of_b (may := fun q => q = g) (HBx1.out)) (fun _ _ h => h))
 by_cases hc : cv < 0
 · have hyx : ltW dt y x := cmpW_lt (by rw [← hcv]; exact hc)
   clear hcv
   go_wp2
   go_roundw
   case rel => exact ⟨q + 1, j, by go_num, rfl, by omega, by omega, hj, fun _ z hz => by rw [Nat.add_sub_cancel, hlq] at hz; cases hz; exact hyx, HG2.out, HRN.out, HFN.out⟩
   case measure => simp [intOf]; omega
 · have hxy : ltW dt x y := HOK.out.nlt (p := a) (q := q) (by omega) hla hlq (by rw [← hcv]; exact hc)
   clear hcv
   go_wp2
   go_roundw
   case rel => exact ⟨i, q, rfl, rfl, hi, by omega, by omega, HG1.out, fun _ z hz => by rw [hlq] at hz; cases hz; exact hxy, HRN.out, HFN.out⟩
   case measure => simp [intOf]; omega
      }
    · obtain rfl : i = j := by omega
      have hltz : ¬ (i : Int) < (i : Int) := by omega
      have hw1 : IntKind.i64.wrap ((i : Int) - 1) = (i : Int) - 1 := IntWalk.i64_in _ (by omega)
      go_wp2
      go_loopw [13] (fun kv wr => ∃ k : Nat, kv = .int .i64 (k : Int) ∧ a ≤ k ∧ k + 1 ≤ i ∧ RowC dt nS cap wr g (rot l a (a + 1) (k + 1)) ∧ Fr (fun q => q = g) w wr) (fun kv _ => i - (intOf kv).toNat)
      case atStart => exact ⟨a, rfl, Nat.le_refl _, by omega, by rw [rot_start (by omega)]; exact HR.out, HF.out⟩
      case round =>
        obtain ⟨k, rfl, hk1, hk2, hrow, hfr⟩ := hrel
        have HR2 := Lib.hid hrow
        have HF2 := Lib.hid hfr
        clear hrow hfr HR HF
        have hrl := rot_length (l := l) (s := a) (m := a + 1) (e := k + 1) (by omega) (by omega) (by omega)
        by_cases hki : k + 1 < i
        · obtain ⟨wk, rfl⟩ : ∃ W : World, W = wr := ⟨_, rfl⟩
          have hkz : (k : Int) < (i : Int) - 1 := by omega
          obtain ⟨u, hu⟩ : ∃ u, (rot l a (a + 1) (k + 1))[k]? = some u := ⟨_, List.getElem?_eq_getElem (by omega)⟩
          obtain ⟨v, hv⟩ : ∃ v, (rot l a (a + 1) (k + 1))[k + 1]? = some v := ⟨_, List.getElem?_eq_getElem (by omega)⟩
          have hk0 : (0 : Int) ≤ (k : Int) := by omega
          have hkl : (k : Int) < (l.length : Int) := by omega
          have hkl2 : (k : Int) + 1 < (l.length : Int) := by omega
          have hkn : k < l.length := by omega
          have hkn2 : k + 1 < l.length := by omega
          have hk00 : (0 : Int) ≤ (k : Int) + 1 := by omega
          have hw2 : IntKind.i64.wrap ((k : Int) + 1) = (k : Int) + 1 := IntWalk.i64_in _ (by omega)
          have x0 := HR2.out.at hu
          have y0 := HR2.out.at hv
          obtain ⟨W9, hW9⟩ : ∃ V, V = (wk.setCell ⟨g, k, none⟩ (.int .i64 (v : Int))).setCell ⟨g, (k + 1), none⟩ (.int .i64 (u : Int)) := ⟨_, rfl⟩
          have HSW := Lib.hid (show RowC dt nS cap W9.drew g (swL (rot l a (a + 1) (k + 1)) k (k + 1)) by rw [hW9]; exact (HR2.out.swap hu hv).on (Below.refl _ _).drew)
          have HFW := Lib.hid (show Fr (fun q => q = g) w W9.drew by rw [hW9]; exact (HF2.out.trans (iz_fr wk g k (k + 1) (.int .i64 (v : Int)) (.int .i64 (u : Int))) (fun _ _ h => h)).drew)
          have f0 := HR2.out.frozen k
          have f3' := HR2.out.frozen (k + 1)
          rw [rot_up hk1 (by omega)] at HSW
          go_wp2_with fail
          go_big_region_o
          rw [← hW9]
          clear hW9 x0 y0 f0 f3'
          go_wp2
          go_roundw
          case rel => exact ⟨k + 1, by go_num, by omega, by omega, HSW.out, HFW.out⟩
          case measure => simp [intOf]; omega
        · have hkz : ¬ (k : Int) < (i : Int) - 1 := by omega
          obtain rfl : i = k + 1 := by omega
          have HMM := HM.out
          have HSRT := Lib.hid (ins_left (izT dt) (l := l) (a := a) (b := b) (i := k + 1) (x := x) hb (by omega) (by omega) (by rw [← HM.out]; exact HS.out) hla (fun h => HG1.out (by omega)) (fun h => HG2.out h))
          have HPR := Lib.hid (PrmI.ofS (d := dt) (N := nS) ((rot_perm (l := l) (s := a) (m := a + 1) (e := k + 1) (by omega) (by omega) (by omega)).within (a := a) (b := b) (by omega) (Nat.le_refl _) (by omega) (by omega)) (by omega) (by omega) HSRT.out)
          clear HMM
          go_wp2
          refine bodyPost_ret (v := .tuple #[]) (by simp [results, Tryz.results68]) rfl ⟨rfl, _, HR2.out, HPR.out, HSRT.out, HF2.out⟩
end Go.Proofs.YtjkoppdddaknlaaGreatDoor

/- slices.symMergeCmpFunc at numbers where the second part has one element. Printed by gen_stsym.py. -/
namespace Go.Proofs.YtjkoppdddaknlaaGreatDoor
open Go Go.RowKit Go.Proofs

set_option maxHeartbeats 8000000 in
set_option maxRecDepth 100000 in
theorem izSymR_any (dt : Nat → Int) (nS : Nat) (cap : Value) (g c a m b : Nat) (l : List Nat) (w : World) (h : RowC dt nS cap w g l) (ham : a < m) (ham1 : m ≠ a + 1) (hmb : b = m + 1) (hb : b ≤ l.length) (hl : l.length ≤ 1000000) (hok : OkI dt nS l) (hs : SrtOn (ltW dt) l a m) :
    Calls Tryz.prog 68 #[.slice (some ⟨g, 0, none⟩) l.length c, .int .i64 (a : Int), .int .i64 (m : Int), .int .i64 (b : Int), .func (.func 34) #[] #[cap]] w fun e w' => e = .returned (.tuple #[]) ∧ ∃ l', RowC dt nS cap w' g l' ∧ PrmI dt nS l l' a b ∧ SrtOn (ltW dt) l' a b ∧ Fr (fun q => q = g) w w' := by
  have H0 := Lib.hid h
  have HOK := Lib.hid hok
  have mixed : Tryz.prog.follows Departure.mixedOrders = true := by kernel_rfl
  have hw0 : IntKind.i64.wrap ((m : Int) - (a : Int)) = (m : Int) - (a : Int) := IntWalk.i64_in _ (by omega)
  have hz0 : ((m : Int) - (a : Int) == 1) = false := by rw [beq_eq_false_iff_ne]; omega
  have hz00 : ¬ (m : Int) - (a : Int) = 1 := by omega
  have hw1 : IntKind.i64.wrap ((b : Int) - (m : Int)) = 1 := by rw [IntWalk.i64_in _ (by omega)]; omega
  have HM := Lib.hid hmb
  have HS := Lib.hid hs
  obtain ⟨x, hlm⟩ : ∃ x, l[m]? = some x := ⟨_, List.getElem?_eq_getElem (by omega)⟩
  have hmb' : m < b := by omega
  clear h hok hmb hs
  go_enter Tryz.func68, Tryz.ntmps68
  go_wp2
  go_loopw [14, 15] (fun iv jv wr => ∃ i j : Nat, iv = .int .i64 (i : Int) ∧ jv = .int .i64 (j : Int) ∧ a ≤ i ∧ i ≤ j ∧ j ≤ m ∧ (a < i → ∀ z, l[i - 1]? = some z → ltW dt z x) ∧ (j < m → ∀ z, l[j]? = some z → ltW dt x z) ∧ RowC dt nS cap wr g l ∧ Fr (fun q => q = g) w wr) (fun iv jv _ => (intOf jv).toNat - (intOf iv).toNat)
  case atStart => exact ⟨a, m, rfl, rfl, Nat.le_refl _, by omega, Nat.le_refl _, fun h => absurd h (Nat.lt_irrefl _), fun h => absurd h (Nat.lt_irrefl _), H0.out, Fr.refl _ _⟩
  case round =>
    obtain ⟨i, j, rfl, rfl, hi, hij, hj, hg1, hg2, hrow, hfr⟩ := hrel
    have HG1 := Lib.hid hg1
    have HG2 := Lib.hid hg2
    have HR := Lib.hid hrow
    have HF := Lib.hid hfr
    clear hg1 hg2 hrow hfr H0
    by_cases hlt : i < j
    · have hltz : (i : Int) < (j : Int) := by omega
      obtain ⟨wj, rfl⟩ : ∃ W : World, W = wr := ⟨_, rfl⟩
      obtain ⟨q, hq⟩ : ∃ q, q = (i + j) / 2 := ⟨_, rfl⟩
      have hh : ((i : Int) + (j : Int)) / 2 = (q : Int) := by omega
      have hq1 : i ≤ q := by omega
      have hq2 : q < j := by omega
      clear hq
      obtain ⟨y, hlq⟩ : ∃ y, l[q]? = some y := ⟨_, List.getElem?_eq_getElem (by omega)⟩
      have HKS17 := Lib.hid (show ∀ X, Below wj.heap.size wj X → (fun X => Below wj.heap.size wj X ∧ X.cell? ⟨g, m, none⟩ = some (.int .i64 (x : Int)) ∧ X.cell? ⟨g, q, none⟩ = some (.int .i64 (y : Int))) X from fun X hX => by
        have a0 := HR.out.drw hX hlm
        have b0 := HR.out.drw hX hlq
        exact ⟨hX, a0, b0⟩)
      have HCM := Lib.hid (fun X (hX : Below wj.heap.size wj X) => (HR.out.on hX).cmp x y (HOK.out.sm hlm) (HOK.out.sm hlq))
      have hj0 : (0 : Int) ≤ (q : Int) := by omega
      have hj1' : (q : Int) < (l.length : Int) := by omega
      have hj5' : q < l.length := by omega
      have ha1' : (m : Int) < (l.length : Int) := by omega
      have ha5' : m < l.length := by omega
      go_wp2_with fail
      skip
      {
 refine wp_region_noPanic ?_
 refine wp_region_held_drew (S := (fun X => Below wj.heap.size wj X ∧ X.cell? ⟨g, m, none⟩ = some (.int .i64 (x : Int)) ∧ X.cell? ⟨g, q, none⟩ = some (.int .i64 (y : Int)))) (by kernel_rfl) (HKS17.out _ (Below.refl _ wj).drew) (fun HS0 => ?_)
 have hbx0 : Below wj.heap.size wj wj.drew := (Below.refl _ _).drew
 obtain ⟨Xx0, hXx0⟩ : ∃ X, X = wj.drew := ⟨_, rfl⟩
 rw [← hXx0] at hbx0 HS0 ⊢
 have HBx0 := Lib.hid hbx0
 clear hbx0 hXx0
 refine wpAnyH_take (i := 0) (v := ?_) rfl (by kernel_rfl) (by kernel_rfl) (by kernel_rfl) (fun _ _ _ h => h) (Or.inl ⟨by kernel_rfl, ?_⟩) HS0 ?_
 rotate_left
 · intro W hW; (try dsimp only at hW); go_simp; try (with_reducible rfl)
 refine wpAnyH_take (i := 1) (v := ?_) rfl (by kernel_rfl) (by kernel_rfl) (by kernel_rfl) (fun _ _ _ h => h) (Or.inl ⟨by kernel_rfl, ?_⟩) HS0 ?_
 rotate_left
 · intro W hW; (try dsimp only at hW); go_simp; try (with_reducible rfl)
 refine wpAnyH_take (i := 2) (v := ?_) rfl (by kernel_rfl) (by kernel_rfl) (by kernel_rfl) (fun _ _ _ h => h) (Or.inl ⟨by kernel_rfl, ?_⟩) HS0 ?_
 rotate_left
 · intro W hW; (try dsimp only at hW); go_simp; try (with_reducible rfl)
 refine wpAnyH_take (i := 3) (v := ?_) rfl (by kernel_rfl) (by kernel_rfl) (by kernel_rfl) (fun _ _ _ h => h) (Or.inl ⟨by kernel_rfl, ?_⟩) HS0 ?_
 rotate_left
 · intro W hW; (try dsimp only at hW); go_simp; try (with_reducible rfl)
 refine wpAnyH_take (i := 4) (v := ?_) rfl (by kernel_rfl) (by kernel_rfl) (by kernel_rfl) (fun _ _ _ h => h) (Or.inl ⟨by kernel_rfl, ?_⟩) HS0 ?_
 rotate_left
 · intro W hW; (try dsimp only at hW); go_simp; try (with_reducible rfl)
 refine wpAnyH_take (i := 5) (v := ?_) rfl (by kernel_rfl) (by kernel_rfl) (by kernel_rfl) (fun _ _ _ h => h) (Or.inl ⟨by kernel_rfl, ?_⟩) HS0 ?_
 rotate_left
 · intro W hW; (try dsimp only at hW); go_simp; try (with_reducible rfl)
 refine wpAnyH_take (i := 6) (v := ?_) rfl (by kernel_rfl) (by kernel_rfl) (by kernel_rfl) (fun _ _ _ h => h) (Or.inl ⟨by kernel_rfl, ?_⟩) HS0 ?_
 rotate_left
 · intro W hW; (try dsimp only at hW); go_simp; try (with_reducible rfl)
 refine wpAnyH_take (i := 7) (v := ?_) rfl (by kernel_rfl) (by kernel_rfl) (by kernel_rfl) (fun _ _ _ h => h) (Or.inl ⟨by kernel_rfl, ?_⟩) HS0 ?_
 rotate_left
 · intro W hW; (try dsimp only at hW); go_simp; try (with_reducible rfl)
 refine wpAnyH_take (i := 8) (v := ?_) rfl (by kernel_rfl) (by kernel_rfl) (by kernel_rfl) (fun _ _ _ h => h) (Or.inl ⟨by kernel_rfl, ?_⟩) HS0 ?_
 rotate_left
 · intro W hW; (try dsimp only at hW); go_simp; try (with_reducible rfl)
 clear HS0
 refine run_one (i := 9) (by kernel_rfl) rfl rfl ?_
 intro K hK
 go_simp
 (with_reducible refine (HCM.out Xx0 HBx0.out).mono ?_)
 rintro e Xx1 ⟨rfl, hbx1⟩
 have HBx1 := Lib.hid (below_next (HBx0.out) hbx1)
 refine hK.out _ _ (HKS17.out _ HBx1.out) ?_
 clear hK K
 intro _
 have HS0 := HKS17.out _ (HBx1.out)
 refine wpAnyH_take (i := 10) (v := ?_) rfl (by kernel_rfl) (by kernel_rfl) (by kernel_rfl) (fun _ _ _ h => h) (Or.inl ⟨by kernel_rfl, ?_⟩) HS0 ?_
 rotate_left
 · intro W hW; (try dsimp only at hW); go_simp; try (with_reducible rfl)
 clear HS0
 have HS0 := HKS17.out _ (HBx1.out)
 refine wpAnyH_take (i := 11) (v := ?_) rfl (by kernel_rfl) (by kernel_rfl) (by kernel_rfl) (fun _ _ _ h => h) (Or.inl ⟨by kernel_rfl, ?_⟩) HS0 ?_
 rotate_left
 · intro W hW; (try dsimp only at hW); go_simp; try (with_reducible rfl)
 clear HS0
 refine wpAnyH_done (by kernel_rfl) ?_ _
 refine NoPanic.normal ?_
 (try go_simp)
 obtain ⟨cv, hcv⟩ : ∃ z, z = cmpW dt x y := ⟨_, rfl⟩
 rw [← hcv]
 have HRN := Lib.hid (HR.out.on (HBx1.out))
 have HFN := Lib.hid (HF.out.trans (Fr.of_b (may := fun q => q = g) (HBx1.out)) (fun _ _ h => h))
 obtain ⟨cb, hcb⟩ : ∃ z, z = (!decide (cv < 0)) := ⟨_, rfl⟩
 rw [← hcb]
 by_cases hc : cv < 0
 · have hxy : ltW dt x y := cmpW_lt (by rw [← hcv]; exact hc)
   obtain rfl : cb = false := by rw [hcb, decide_eq_true hc]; rfl
   clear hcb
   clear hcv
   go_wp2
   go_roundw
   case rel => exact ⟨i, q, rfl, rfl, hi, by omega, by omega, HG1.out, fun _ z hz => by rw [hlq] at hz; cases hz; exact hxy, HRN.out, HFN.out⟩
   case measure => simp [intOf]; omega
 · have hyx : ltW dt y x := HOK.out.nlt (p := q) (q := m) (by omega) hlq hlm (by rw [← hcv]; exact hc)
   obtain rfl : cb = true := by rw [hcb, decide_eq_false hc]; rfl
   clear hcb
   clear hcv
   go_wp2
   go_roundw
   case rel => exact ⟨q + 1, j, by go_num, rfl, by omega, by omega, hj, fun _ z hz => by rw [Nat.add_sub_cancel, hlq] at hz; cases hz; exact hyx, HG2.out, HRN.out, HFN.out⟩
   case measure => simp [intOf]; omega
      }
    · obtain rfl : i = j := by omega
      have hltz : ¬ (i : Int) < (i : Int) := by omega
      go_wp2
      go_loopw [17] (fun kv wr => ∃ k : Nat, kv = .int .i64 (k : Int) ∧ i ≤ k ∧ k ≤ m ∧ RowC dt nS cap wr g (rot l k m (m + 1)) ∧ Fr (fun q => q = g) w wr) (fun kv _ => (intOf kv).toNat)
      case atStart => exact ⟨m, rfl, hj, Nat.le_refl _, by rw [rot_start' (by omega)]; exact HR.out, HF.out⟩
      case round =>
        obtain ⟨k', rfl, hk1, hk2, hrow, hfr⟩ := hrel
        by_cases hki : i < k'
        · obtain ⟨k, rfl⟩ : ∃ k, k' = k + 1 := ⟨k' - 1, by omega⟩
          have HR2 := Lib.hid hrow
          have HF2 := Lib.hid hfr
          clear hrow hfr HR HF
          have hrl := rot_length (l := l) (s := k + 1) (m := m) (e := m + 1) (by omega) (by omega) (by omega)
          obtain ⟨wk, rfl⟩ : ∃ W : World, W = wr := ⟨_, rfl⟩
          have hkz : (i : Int) < (k : Int) + 1 := by omega
          have hkz2 : i < k + 1 := hki
          obtain ⟨u, hu⟩ : ∃ u, (rot l (k + 1) m (m + 1))[k + 1]? = some u := ⟨_, List.getElem?_eq_getElem (by omega)⟩
          obtain ⟨v, hv⟩ : ∃ v, (rot l (k + 1) m (m + 1))[k]? = some v := ⟨_, List.getElem?_eq_getElem (by omega)⟩
          have hk0 : (0 : Int) ≤ (k : Int) := by omega
          have hkl : (k : Int) < (l.length : Int) := by omega
          have hkl2 : (k : Int) + 1 < (l.length : Int) := by omega
          have hkn : k < l.length := by omega
          have hkn2 : k + 1 < l.length := by omega
          have hk00 : (0 : Int) ≤ (k : Int) + 1 := by omega
          have hw2 : IntKind.i64.wrap ((k : Int) + 1 - 1) = (k : Int) := by rw [IntWalk.i64_in _ (by omega)]; omega
          have hw3 : IntKind.i64.wrap (k : Int) = (k : Int) := IntWalk.i64_in _ (by omega)
          have x0 := HR2.out.at hu
          have y0 := HR2.out.at hv
          obtain ⟨W9, hW9⟩ : ∃ V, V = (wk.setCell ⟨g, (k + 1), none⟩ (.int .i64 (v : Int))).setCell ⟨g, k, none⟩ (.int .i64 (u : Int)) := ⟨_, rfl⟩
          have HSW := Lib.hid (show RowC dt nS cap W9.drew g (swL (rot l (k + 1) m (m + 1)) (k + 1) k) by rw [hW9]; exact (HR2.out.swap hu hv).on (Below.refl _ _).drew)
          have HFW := Lib.hid (show Fr (fun q => q = g) w W9.drew by rw [hW9]; exact (HF2.out.trans (iz_fr wk g (k + 1) k (.int .i64 (v : Int)) (.int .i64 (u : Int))) (fun _ _ h => h)).drew)
          have f0 := HR2.out.frozen (k + 1)
          have f3' := HR2.out.frozen k
          rw [rot_down hk2 (by omega)] at HSW
          go_wp2_with fail
          go_big_region_o
          rw [← hW9]
          clear hW9 x0 y0 f0 f3'
          go_wp2
          go_roundw
          case rel => exact ⟨k, by go_num, by omega, by omega, HSW.out, HFW.out⟩
          case measure => first | (simp [intOf]; done) | (simp [intOf]; omega)
        · obtain rfl : k' = i := by omega
          have hkz : ¬ (k' : Int) < (k' : Int) := by omega
          have HR2 := Lib.hid hrow
          have HF2 := Lib.hid hfr
          have HSRT := Lib.hid (ins_right (izT dt) (l := l) (a := a) (m := m) (i := k') (x := x) (by omega) hi hk2 HS.out hlm HG1.out HG2.out)
          rw [← HM.out] at HSRT
          have HPR := Lib.hid (PrmI.ofS (d := dt) (N := nS) ((rot_perm (l := l) (s := k') (m := m) (e := m + 1) (by omega) (by omega) (by omega)).within (a := a) (b := b) (by omega) (by omega) (by omega) (by omega)) (by omega) (by omega) (by have h9 := HSRT.out; rw [HM.out] at h9 ⊢; exact h9))
          clear hrow hfr HR HF
          go_wp2
          refine bodyPost_ret (v := .tuple #[]) (by simp [results, Tryz.results68]) rfl ⟨rfl, _, HR2.out, HPR.out, by rw [HM.out] at HSRT ⊢; exact HSRT.out, HF2.out⟩
end Go.Proofs.YtjkoppdddaknlaaGreatDoor
