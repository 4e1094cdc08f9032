/- JudgeChangesAreLeast: the law's walk. Printed by gen_lawlst.py out of lawlst.txt. -/
import Derived.Test.YtnpfdelklolchaaGreatDoorG35
import Derived.Test.YtnpfdelklolchaaGreatDoorCost
import Derived.Test.YtnpfdelklolchaaGreatDoorG42
import Derived.Test.YtnpfdelklolchaaGreatDoorG29
import Derived.Test.YtnpfdelklolchaaGreatDoorG22
import Derived.Test.YtnpfdelklolchaaGreatDoorG37
namespace Go.Proofs.YtnpfdelklolchaaGreatDoor
open Go Go.RowKit Go.Proofs

theorem chC_zero {l : List Int} {pen : Int} (h : chC l pen = 0) : 0 < l.length ∧ l.length ≤ 300 ∧ okZ l = true ∧ 0 ≤ pen ∧ pen ≤ 1000000000000000 ∧ fitQ (chQ l pen) = true := by
  unfold chC at h
  split at h
  · cases h
  · split at h
    · cases h
    · split at h
      · split at h
        · rename_i h1 h2 h3 h4
          refine ⟨by omega, by omega, h3, h4.1, h4.2, ?_⟩
          unfold rtC at h
          split at h
          · rename_i h5; exact h5
          · cases h
        · cases h
      · cases h
theorem Val.at : ∀ {i j : Nat} {r : List Nat}, Val i j r → ∀ (k q : Nat), r[k]? = some q → i < q ∧ q < j
  | _, _, [], _, k, q, h => by simp at h
  | i, j, a :: r, hv, 0, q, h => by
    simp at h; subst h
    exact ⟨hv.1, hv.2.1⟩
  | i, j, a :: r, hv, k + 1, q, h => by
    have ih := Val.at hv.2.2 k q (by simpa using h)
    have h1 := hv.1
    exact ⟨by omega, ih.2⟩
theorem Val.inc : ∀ {i j : Nat} {r : List Nat}, Val i j r → ∀ (m p q : Nat), r[m]? = some p → r[m + 1]? = some q → p < q
  | _, _, [], _, m, p, q, h, _ => by simp at h
  | i, j, a :: r, hv, 0, p, q, h, h2 => by
    simp at h; subst h
    exact (Val.at hv.2.2 0 q (by simpa using h2)).1
  | i, j, a :: r, hv, m + 1, p, q, h, h2 => Val.inc hv.2.2 m p q (by simpa using h) (by simpa using h2)
theorem ord_least {a b : Rat} {n m : Nat} {cv : Int} (h : ¬ a < b ∧ (a = b → m ≤ n)) (hc : cv = ordQ a b) : ¬ cv < 0 ∧ (cv = 0 → m ≤ n) := by
  unfold ordQ at hc
  rw [if_neg h.1] at hc
  by_cases he : a = b
  · rw [if_pos he] at hc
    exact ⟨by omega, fun _ => h.2 he⟩
  · rw [if_neg he] at hc
    exact ⟨by omega, fun hz => by omega⟩
set_option maxHeartbeats 8000000 in
set_option maxRecDepth 100000 in
theorem lawLst_any (A : Option Addr) (c : Nat) (l : List Int) (pen : Int) (w : World) (htab : Tab w.heap.size w) (hr : Rd w 0 w.heap.size 1 A l.length (ints l)) (hm : l.length ≤ 4000000000000000000)
    (hj : Calls Tryz.prog 6 #[.slice A l.length c, .int .i64 pen] w (ChgPost l pen w)) :
    Calls Tryz.prog 3 #[.slice A l.length c, .int .i64 pen] w fun e w' => e = .returned (.bool true) ∧ Below w.heap.size w w' := by
  have HH := Lib.hid (fun W (hW : Below w.heap.size w W) => halves_any W ((htab.on hW).mono hW.size))
  have HTB := Lib.hid (fun W (hW : Below w.heap.size w W) => (htab.on hW).mono hW.size)
  have HR := Lib.hid (fun W (hW : Below w.heap.size w W) => hr.old hW)
  by_cases hc0 : chC l pen = 0
  · obtain ⟨g0, g1, g2, g3, g4, g5⟩ := chC_zero hc0
    have HJ := Lib.hid (hj.mono fun e w' h => (show ∃ B d, e = .returned (.tuple #[.slice B (chB l pen).2.length d, ratOf (txtQ (chQ l pen)), .int .i64 0]) ∧ Rd w' 0 w'.heap.size 1 B (chB l pen).2.length (nInts (chB l pen).2) ∧ Below w.heap.size w w' by
      rcases h with ⟨h1, _⟩ | ⟨_, B, d, h2, h3⟩
      · exact absurd hc0 h1
      · refine ⟨B, d, ?_, h3⟩
        rw [h2]; unfold rtT; rw [if_pos g5]))
    obtain ⟨S1, S2, hS⟩ : ∃ S1 S2 : ByteArray, ratOf (txtQ (chQ l pen)) = .agg #[.string S1, .string S2] := ⟨_, _, rfl⟩
    rw [hS] at HJ
    have HS := Lib.hid hS
    have hval := chB_places (pen := pen) g0
    have hq := chQ_cost (l := l) (pen := pen) g0 g3
    have hle := fun at' (h : Val 0 l.length at') => least_any (l := l) (pen := pen) g0 h
    obtain ⟨zs, hzs⟩ : ∃ z, z = (chB l pen).2 := ⟨_, rfl⟩
    rw [← hzs] at HJ hval hq hle
    have HZS := Lib.hid hzs
    have HVAL := Lib.hid hval
    have HQ := Lib.hid hq
    have HLE := Lib.hid hle
    have HOK := Lib.hid (fun z hz => okZ_mem g2 (x := z) hz)
    have HFIT := Lib.hid g5
    have HPEN := Lib.hid (show 0 ≤ pen ∧ pen ≤ 1000000000000000 from ⟨g3, g4⟩)
    clear hS hzs hval hq hle htab hr hj hm g2 g3 g4 g5 hc0
    by_cases hl7 : 7 < l.length
    · have hl7z : (7 : Int) < (l.length : Int) := by omega
      go_enter Tryz.func3, Tryz.ntmps3
      go_wp2_with fail
      (with_reducible refine (HJ.out).mono ?_)
      rintro e w1 ⟨B1, d1, rfl, hrd1, hb1⟩
      obtain ⟨W2, hW2⟩ : ∃ W2, W2 = w1.alloc (.cells #[.string S1, .string S2] 24) := ⟨_, rfl⟩
      have hb12 : Below w1.heap.size w1 W2 := by rw [hW2]; exact (Below.refl _ w1).alloc (Nat.le_refl _) _
      have HB2 := Lib.hid (below_next hb1 hb12)
      clear hrd1 hb1 hb12
      go_wp2_with fail
      rw [← hW2]
      clear hW2
      (with_reducible refine (HH.out _ HB2.out).mono ?_)
      rintro e w3 ⟨rfl, hb3⟩
      have HB3 := Lib.hid (below_next HB2.out hb3)
      clear hb3
      go_wp2
      go_ret
      exact ⟨by rfl, HB3.out⟩
    · have hl7z : ¬ (7 : Int) < (l.length : Int) := by omega
      have hzl := Val.length_le HVAL.out g0
      have HCO := Lib.hid (fun W (hW : Below w.heap.size w W) B d at' (h : Rd W 0 W.heap.size 1 B at'.length (nInts at')) (hv : Val 0 l.length at') => cost_any A B c d l at' pen W (HR.out W hW) h (by omega) g0 HOK.out HPEN.out.1 HPEN.out.2 hv)
      go_enter Tryz.func3, Tryz.ntmps3
      go_wp2_with fail
      (with_reducible refine (HJ.out).mono ?_)
      rintro e w1 ⟨B1, d1, rfl, hrd1, hb1⟩
      obtain ⟨W2, hW2⟩ : ∃ W2, W2 = w1.alloc (.cells #[.string S1, .string S2] 24) := ⟨_, rfl⟩
      have hb12 : Below w1.heap.size w1 W2 := by rw [hW2]; exact (Below.refl _ w1).alloc (Nat.le_refl _) _
      obtain ⟨k1, hk1⟩ : ∃ B, B = w1.heap.size := ⟨_, rfl⟩
      have HX2 := Lib.hid (show Txt2 W2 k1 S1 S2 by rw [hW2, hk1]; exact alloc_at _ _ _ rfl)
      have HB2 := Lib.hid (below_next hb1 hb12)
      have HP2 := Lib.hid ((hrd1.below hb12 (Nat.le_refl _)).more (Nat.le_refl _) hb12.size)
      clear hrd1 hb1 hb12
      go_wp2
      rw [← hW2, ← hk1]
      clear hW2 hk1
      go_loopw [8] (fun iv wr => ∃ i : Nat, iv = .int .i64 (i : Int) ∧ i ≤ zs.length ∧ Below W2.heap.size W2 wr) (fun iv _ => zs.length - (intOf iv).toNat)
      case atStart => exact ⟨0, rfl, Nat.zero_le _, Below.refl _ _⟩
      case round =>
        obtain ⟨i, rfl, hi, hbw⟩ := hrel
        have HBW := Lib.hid hbw
        clear hbw
        by_cases hlt : i < zs.length
        · obtain ⟨b', o', u, rfl, hbB, hu, hcell⟩ := (HP2.out.old HBW.out).at1 hlt
          obtain ⟨k, hk⟩ : ∃ k, zs[i]? = some k := ⟨_, List.getElem?_eq_getElem hlt⟩
          obtain rfl : u = .int .i64 (k : Int) := by
            unfold nInts at hu
            rw [List.getElem?_map, hk] at hu
            exact (Option.some.inj hu).symm
          have hltz : (i : Int) < (zs.length : Int) := by omega
          obtain ⟨v1, v2⟩ := HVAL.out.at i k hk
          have hk1 : ¬ (k : Int) ≤ 0 := by omega
          have hk2 : ¬ (l.length : Int) ≤ (k : Int) := by omega
          have hk3 : ¬ k = 0 := by omega
          have hk4 : ¬ l.length ≤ k := by omega
          have hc0' := hcell
          cases i with
          | zero =>
            have HKS7 := Lib.hid (show ∀ X, Below wr.heap.size wr X → (fun X => Below wr.heap.size wr X ∧ X.cell? ⟨b', o', none⟩ = some (.int .i64 (k : Int))) X from fun X hX => ⟨hX, (World.cell?_of_block (hX.block b' hbB)).trans hc0'⟩)
            clear hu hk hcell hc0' v1 v2
            go_wp2_with fail
            skip
            {
 refine wp_region_noPanic ?_
 refine wp_region_held_drew (S := (fun X => Below wr.heap.size wr X ∧ X.cell? ⟨b', o', none⟩ = some (.int .i64 (k : Int)))) (by kernel_rfl) (HKS7.out _ (Below.refl _ wr).drew) (fun HS0 => ?_)
 have hbx0 : Below wr.heap.size wr wr.drew := (Below.refl _ _).drew
 obtain ⟨Xx0, hXx0⟩ : ∃ X, X = wr.drew := ⟨_, rfl⟩
 rw [← hXx0] at hbx0 HS0 ⊢
 have HBx0 := Lib.hid hbx0
 clear hbx0 hXx0
 refine wpAnyH_take (i := 0) (v := ?_) rfl (by kernel_rfl) (by kernel_rfl) (by kernel_rfl) (fun _ _ _ h => h) (Or.inl ⟨by kernel_rfl, ?_⟩) HS0 ?_
 rotate_left
 · intro W hW; (try dsimp only at hW); go_simp; try (with_reducible rfl)
 refine wpAnyH_take (i := 1) (v := ?_) rfl (by kernel_rfl) (by kernel_rfl) (by kernel_rfl) (fun _ _ _ h => h) (Or.inl ⟨by kernel_rfl, ?_⟩) HS0 ?_
 rotate_left
 · intro W hW; (try dsimp only at hW); go_simp; try (with_reducible rfl)
 refine wpAnyH_take (i := 2) (v := ?_) rfl (by kernel_rfl) (by kernel_rfl) (by kernel_rfl) (fun _ _ _ h => h) (Or.inl ⟨by kernel_rfl, ?_⟩) HS0 ?_
 rotate_left
 · intro W hW; (try dsimp only at hW); go_simp; try (with_reducible rfl)
 refine wpAnyH_take (i := 3) (v := ?_) rfl (by kernel_rfl) (by kernel_rfl) (by kernel_rfl) (fun _ _ _ h => h) (Or.inl ⟨by kernel_rfl, ?_⟩) HS0 ?_
 rotate_left
 · intro W hW; (try dsimp only at hW); go_simp; try (with_reducible rfl)
 refine wpAnyH_take (i := 4) (v := ?_) rfl (by kernel_rfl) (by kernel_rfl) (by kernel_rfl) (fun _ _ _ h => h) (Or.inl ⟨by kernel_rfl, ?_⟩) HS0 ?_
 rotate_left
 · intro W hW; (try dsimp only at hW); go_simp; try (with_reducible rfl)
 refine wpAnyH_take (i := 5) (v := ?_) rfl (by kernel_rfl) (by kernel_rfl) (by kernel_rfl) (fun _ _ _ h => h) (Or.inl ⟨by kernel_rfl, ?_⟩) HS0 ?_
 rotate_left
 · intro W hW; (try dsimp only at hW); go_simp; try (with_reducible rfl)
 refine wpAnyH_take (i := 6) (v := ?_) rfl (by kernel_rfl) (by kernel_rfl) (by kernel_rfl) (fun _ _ _ h => h) (Or.inl ⟨by kernel_rfl, ?_⟩) HS0 ?_
 rotate_left
 · intro W hW; (try dsimp only at hW); go_simp; try (with_reducible rfl)
 refine wpAnyH_take (i := 7) (v := ?_) rfl (by kernel_rfl) (by kernel_rfl) (by kernel_rfl) (fun _ _ _ h => h) (Or.inl ⟨by kernel_rfl, ?_⟩) HS0 ?_
 rotate_left
 · intro W hW; (try dsimp only at hW); go_simp; try (with_reducible rfl)
 refine wpAnyH_take (i := 8) (v := ?_) rfl (by kernel_rfl) (by kernel_rfl) (by kernel_rfl) (fun _ _ _ h => h) (Or.inl ⟨by kernel_rfl, ?_⟩) HS0 ?_
 rotate_left
 · intro W hW; (try dsimp only at hW); go_simp; try (with_reducible rfl)
 refine wpAnyH_take (i := 9) (v := ?_) rfl (by kernel_rfl) (by kernel_rfl) (by kernel_rfl) (fun _ _ _ h => h) (Or.inl ⟨by kernel_rfl, ?_⟩) HS0 ?_
 rotate_left
 · intro W hW; (try dsimp only at hW); go_simp; try (with_reducible rfl)
 refine wpAnyH_take (i := 10) (v := ?_) rfl (by kernel_rfl) (by kernel_rfl) (by kernel_rfl) (fun _ _ _ h => h) (Or.inl ⟨by kernel_rfl, ?_⟩) HS0 ?_
 rotate_left
 · intro W hW; (try dsimp only at hW); go_simp; try (with_reducible rfl)
 refine wpAnyH_take (i := 11) (v := ?_) rfl (by kernel_rfl) (by kernel_rfl) (by kernel_rfl) (fun _ _ _ h => h) (Or.inl ⟨by kernel_rfl, ?_⟩) HS0 ?_
 rotate_left
 · intro W hW; (try dsimp only at hW); go_simp; try (with_reducible rfl)
 refine wpAnyH_take (i := 12) (v := ?_) rfl (by kernel_rfl) (by kernel_rfl) (by kernel_rfl) (fun _ _ _ h => h) (Or.inl ⟨by kernel_rfl, ?_⟩) HS0 ?_
 rotate_left
 · intro W hW; (try dsimp only at hW); go_simp; try (with_reducible rfl)
 refine wpAnyH_take (i := 13) (v := ?_) rfl (by kernel_rfl) (by kernel_rfl) (by kernel_rfl) (fun _ _ _ h => h) (Or.inl ⟨by kernel_rfl, ?_⟩) HS0 ?_
 rotate_left
 · intro W hW; (try dsimp only at hW); go_simp; try (with_reducible rfl)
 refine wpAnyH_take (i := 14) (v := ?_) rfl (by kernel_rfl) (by kernel_rfl) (by kernel_rfl) (fun _ _ _ h => h) (Or.inl ⟨by kernel_rfl, ?_⟩) HS0 ?_
 rotate_left
 · intro W hW; (try dsimp only at hW); go_simp; try (with_reducible rfl)
 refine wpAnyH_take (i := 15) (v := ?_) rfl (by kernel_rfl) (by kernel_rfl) (by kernel_rfl) (fun _ _ _ h => h) (Or.inl ⟨by kernel_rfl, ?_⟩) HS0 ?_
 rotate_left
 · intro W hW; (try dsimp only at hW); go_simp; try (with_reducible rfl)
 refine wpAnyH_take (i := 16) (v := ?_) rfl (by kernel_rfl) (by kernel_rfl) (by kernel_rfl) (fun _ _ _ h => h) (Or.inl ⟨by kernel_rfl, ?_⟩) HS0 ?_
 rotate_left
 · intro W hW; (try dsimp only at hW); go_simp; try (with_reducible rfl)
 refine wpAnyH_take (i := 17) (v := ?_) rfl (by kernel_rfl) (by kernel_rfl) (by kernel_rfl) (fun _ _ _ h => h) (Or.inl ⟨by kernel_rfl, ?_⟩) HS0 ?_
 rotate_left
 · intro W hW; (try dsimp only at hW); go_simp; try (with_reducible rfl)
 clear HS0
 have HS0 := HKS7.out _ (HBx0.out)
 refine wpAnyH_take (i := 18) (v := undef) rfl (by kernel_rfl) (by kernel_rfl) (by kernel_rfl) (fun _ _ _ h => h) (Or.inr ⟨by kernel_rfl, rfl⟩) HS0 ?_
 clear HS0
 have HS0 := HKS7.out _ (HBx0.out)
 refine wpAnyH_take (i := 19) (v := undef) rfl (by kernel_rfl) (by kernel_rfl) (by kernel_rfl) (fun _ _ _ h => h) (Or.inr ⟨by kernel_rfl, rfl⟩) HS0 ?_
 clear HS0
 have HS0 := HKS7.out _ (HBx0.out)
 refine wpAnyH_take (i := 20) (v := undef) rfl (by kernel_rfl) (by kernel_rfl) (by kernel_rfl) (fun _ _ _ h => h) (Or.inr ⟨by kernel_rfl, rfl⟩) HS0 ?_
 clear HS0
 have HS0 := HKS7.out _ (HBx0.out)
 refine wpAnyH_take (i := 21) (v := undef) rfl (by kernel_rfl) (by kernel_rfl) (by kernel_rfl) (fun _ _ _ h => h) (Or.inr ⟨by kernel_rfl, rfl⟩) HS0 ?_
 clear HS0
 have HS0 := HKS7.out _ (HBx0.out)
 refine wpAnyH_take (i := 22) (v := undef) rfl (by kernel_rfl) (by kernel_rfl) (by kernel_rfl) (fun _ _ _ h => h) (Or.inr ⟨by kernel_rfl, rfl⟩) HS0 ?_
 clear HS0
 have HS0 := HKS7.out _ (HBx0.out)
 refine wpAnyH_take (i := 23) (v := undef) rfl (by kernel_rfl) (by kernel_rfl) (by kernel_rfl) (fun _ _ _ h => h) (Or.inr ⟨by kernel_rfl, rfl⟩) HS0 ?_
 clear HS0
 have HS0 := HKS7.out _ (HBx0.out)
 refine wpAnyH_take (i := 24) (v := undef) rfl (by kernel_rfl) (by kernel_rfl) (by kernel_rfl) (fun _ _ _ h => h) (Or.inr ⟨by kernel_rfl, rfl⟩) HS0 ?_
 clear HS0
 have HS0 := HKS7.out _ (HBx0.out)
 refine wpAnyH_take (i := 25) (v := undef) rfl (by kernel_rfl) (by kernel_rfl) (by kernel_rfl) (fun _ _ _ h => h) (Or.inr ⟨by kernel_rfl, rfl⟩) HS0 ?_
 clear HS0
 have HS0 := HKS7.out _ (HBx0.out)
 refine wpAnyH_take (i := 26) (v := undef) rfl (by kernel_rfl) (by kernel_rfl) (by kernel_rfl) (fun _ _ _ h => h) (Or.inr ⟨by kernel_rfl, rfl⟩) HS0 ?_
 clear HS0
 have HS0 := HKS7.out _ (HBx0.out)
 refine wpAnyH_take (i := 27) (v := undef) rfl (by kernel_rfl) (by kernel_rfl) (by kernel_rfl) (fun _ _ _ h => h) (Or.inr ⟨by kernel_rfl, rfl⟩) HS0 ?_
 clear HS0
 have HS0 := HKS7.out _ (HBx0.out)
 refine wpAnyH_take (i := 28) (v := ?_) rfl (by kernel_rfl) (by kernel_rfl) (by kernel_rfl) (fun _ _ _ h => h) (Or.inl ⟨by kernel_rfl, ?_⟩) HS0 ?_
 rotate_left
 · intro W hW; (try dsimp only at hW); go_simp; try (with_reducible rfl)
 clear HS0
 have HS0 := HKS7.out _ (HBx0.out)
 refine wpAnyH_take (i := 29) (v := ?_) rfl (by kernel_rfl) (by kernel_rfl) (by kernel_rfl) (fun _ _ _ h => h) (Or.inl ⟨by kernel_rfl, ?_⟩) HS0 ?_
 rotate_left
 · intro W hW; (try dsimp only at hW); go_simp; try (with_reducible rfl)
 clear HS0
 refine wpAnyH_done (by kernel_rfl) ?_ _
 refine NoPanic.normal ?_
 (try go_simp)
 go_wp2
 go_roundw
 case rel => exact ⟨1, by go_num, by omega, below_next HBW.out (HBx0.out)⟩
 case measure => simp [intOf]; omega
            }
          | succ j =>
            obtain ⟨b2, o2, u2, e2, hbB2, hu2, hcell2⟩ := (HP2.out.old HBW.out).at1 (show j < zs.length by omega)
            simp only [Option.some.injEq, Addr.mk.injEq, and_true] at e2
            obtain ⟨rfl, rfl⟩ := e2
            obtain ⟨p, hp⟩ : ∃ p, zs[j]? = some p := ⟨_, List.getElem?_eq_getElem (by omega)⟩
            obtain rfl : u2 = .int .i64 (p : Int) := by
              unfold nInts at hu2
              rw [List.getElem?_map, hp] at hu2
              exact (Option.some.inj hu2).symm
            have hpk := HVAL.out.inc j p k hp hk
            have hpkz : ¬ (k : Int) ≤ (p : Int) := by omega
            have hpkn : ¬ k ≤ p := by omega
            have HKS7 := Lib.hid (show ∀ X, Below wr.heap.size wr X → (fun X => Below wr.heap.size wr X ∧ X.cell? ⟨b', o' + (j + 1), none⟩ = some (.int .i64 (k : Int)) ∧ X.cell? ⟨b', o' + j, none⟩ = some (.int .i64 (p : Int))) X from fun X hX => ⟨hX, (World.cell?_of_block (hX.block b' hbB)).trans hc0', (World.cell?_of_block (hX.block b' hbB)).trans hcell2⟩)
            have hw1 : IntKind.i64.wrap ((j : Int) + 1 - 1) = (j : Int) := by rw [IntWalk.i64_in _ (by omega)]; omega
            have hw2 : IntKind.i64.wrap (j : Int) = (j : Int) := IntWalk.i64_in _ (by omega)
            have hj0 : (0 : Int) ≤ (j : Int) := by omega
            have hj1 : (j : Int) < (zs.length : Int) := by omega
            have hj2 : (j : Int) + 1 < (zs.length : Int) := by omega
            have hj3 : (0 : Int) ≤ (j : Int) + 1 := by omega
            have hj4 : (0 : Int) < (j : Int) + 1 := by omega
            clear hu hk hu2 hp hcell hc0' hcell2 v1 v2 hpk
            go_wp2_with fail
            skip
            {
 refine wp_region_noPanic ?_
 refine wp_region_held_drew (S := (fun X => Below wr.heap.size wr X ∧ X.cell? ⟨b', o' + (j + 1), none⟩ = some (.int .i64 (k : Int)) ∧ X.cell? ⟨b', o' + j, none⟩ = some (.int .i64 (p : Int)))) (by kernel_rfl) (HKS7.out _ (Below.refl _ wr).drew) (fun HS0 => ?_)
 have hbx0 : Below wr.heap.size wr wr.drew := (Below.refl _ _).drew
 obtain ⟨Xx0, hXx0⟩ : ∃ X, X = wr.drew := ⟨_, rfl⟩
 rw [← hXx0] at hbx0 HS0 ⊢
 have HBx0 := Lib.hid hbx0
 clear hbx0 hXx0
 refine wpAnyH_take (i := 0) (v := ?_) rfl (by kernel_rfl) (by kernel_rfl) (by kernel_rfl) (fun _ _ _ h => h) (Or.inl ⟨by kernel_rfl, ?_⟩) HS0 ?_
 rotate_left
 · intro W hW; (try dsimp only at hW); go_simp; try (with_reducible rfl)
 refine wpAnyH_take (i := 1) (v := ?_) rfl (by kernel_rfl) (by kernel_rfl) (by kernel_rfl) (fun _ _ _ h => h) (Or.inl ⟨by kernel_rfl, ?_⟩) HS0 ?_
 rotate_left
 · intro W hW; (try dsimp only at hW); go_simp; try (with_reducible rfl)
 refine wpAnyH_take (i := 2) (v := ?_) rfl (by kernel_rfl) (by kernel_rfl) (by kernel_rfl) (fun _ _ _ h => h) (Or.inl ⟨by kernel_rfl, ?_⟩) HS0 ?_
 rotate_left
 · intro W hW; (try dsimp only at hW); go_simp; try (with_reducible rfl)
 refine wpAnyH_take (i := 3) (v := ?_) rfl (by kernel_rfl) (by kernel_rfl) (by kernel_rfl) (fun _ _ _ h => h) (Or.inl ⟨by kernel_rfl, ?_⟩) HS0 ?_
 rotate_left
 · intro W hW; (try dsimp only at hW); go_simp; try (with_reducible rfl)
 refine wpAnyH_take (i := 4) (v := ?_) rfl (by kernel_rfl) (by kernel_rfl) (by kernel_rfl) (fun _ _ _ h => h) (Or.inl ⟨by kernel_rfl, ?_⟩) HS0 ?_
 rotate_left
 · intro W hW; (try dsimp only at hW); go_simp; try (with_reducible rfl)
 refine wpAnyH_take (i := 5) (v := ?_) rfl (by kernel_rfl) (by kernel_rfl) (by kernel_rfl) (fun _ _ _ h => h) (Or.inl ⟨by kernel_rfl, ?_⟩) HS0 ?_
 rotate_left
 · intro W hW; (try dsimp only at hW); go_simp; try (with_reducible rfl)
 refine wpAnyH_take (i := 6) (v := ?_) rfl (by kernel_rfl) (by kernel_rfl) (by kernel_rfl) (fun _ _ _ h => h) (Or.inl ⟨by kernel_rfl, ?_⟩) HS0 ?_
 rotate_left
 · intro W hW; (try dsimp only at hW); go_simp; try (with_reducible rfl)
 refine wpAnyH_take (i := 7) (v := ?_) rfl (by kernel_rfl) (by kernel_rfl) (by kernel_rfl) (fun _ _ _ h => h) (Or.inl ⟨by kernel_rfl, ?_⟩) HS0 ?_
 rotate_left
 · intro W hW; (try dsimp only at hW); go_simp; try (with_reducible rfl)
 refine wpAnyH_take (i := 8) (v := ?_) rfl (by kernel_rfl) (by kernel_rfl) (by kernel_rfl) (fun _ _ _ h => h) (Or.inl ⟨by kernel_rfl, ?_⟩) HS0 ?_
 rotate_left
 · intro W hW; (try dsimp only at hW); go_simp; try (with_reducible rfl)
 refine wpAnyH_take (i := 9) (v := ?_) rfl (by kernel_rfl) (by kernel_rfl) (by kernel_rfl) (fun _ _ _ h => h) (Or.inl ⟨by kernel_rfl, ?_⟩) HS0 ?_
 rotate_left
 · intro W hW; (try dsimp only at hW); go_simp; try (with_reducible rfl)
 refine wpAnyH_take (i := 10) (v := ?_) rfl (by kernel_rfl) (by kernel_rfl) (by kernel_rfl) (fun _ _ _ h => h) (Or.inl ⟨by kernel_rfl, ?_⟩) HS0 ?_
 rotate_left
 · intro W hW; (try dsimp only at hW); go_simp; try (with_reducible rfl)
 refine wpAnyH_take (i := 11) (v := ?_) rfl (by kernel_rfl) (by kernel_rfl) (by kernel_rfl) (fun _ _ _ h => h) (Or.inl ⟨by kernel_rfl, ?_⟩) HS0 ?_
 rotate_left
 · intro W hW; (try dsimp only at hW); go_simp; try (with_reducible rfl)
 refine wpAnyH_take (i := 12) (v := ?_) rfl (by kernel_rfl) (by kernel_rfl) (by kernel_rfl) (fun _ _ _ h => h) (Or.inl ⟨by kernel_rfl, ?_⟩) HS0 ?_
 rotate_left
 · intro W hW; (try dsimp only at hW); go_simp; try (with_reducible rfl)
 refine wpAnyH_take (i := 13) (v := ?_) rfl (by kernel_rfl) (by kernel_rfl) (by kernel_rfl) (fun _ _ _ h => h) (Or.inl ⟨by kernel_rfl, ?_⟩) HS0 ?_
 rotate_left
 · intro W hW; (try dsimp only at hW); go_simp; try (with_reducible rfl)
 refine wpAnyH_take (i := 14) (v := ?_) rfl (by kernel_rfl) (by kernel_rfl) (by kernel_rfl) (fun _ _ _ h => h) (Or.inl ⟨by kernel_rfl, ?_⟩) HS0 ?_
 rotate_left
 · intro W hW; (try dsimp only at hW); go_simp; try (with_reducible rfl)
 refine wpAnyH_take (i := 15) (v := ?_) rfl (by kernel_rfl) (by kernel_rfl) (by kernel_rfl) (fun _ _ _ h => h) (Or.inl ⟨by kernel_rfl, ?_⟩) HS0 ?_
 rotate_left
 · intro W hW; (try dsimp only at hW); go_simp; try (with_reducible rfl)
 refine wpAnyH_take (i := 16) (v := ?_) rfl (by kernel_rfl) (by kernel_rfl) (by kernel_rfl) (fun _ _ _ h => h) (Or.inl ⟨by kernel_rfl, ?_⟩) HS0 ?_
 rotate_left
 · intro W hW; (try dsimp only at hW); go_simp; try (with_reducible rfl)
 refine wpAnyH_take (i := 17) (v := ?_) rfl (by kernel_rfl) (by kernel_rfl) (by kernel_rfl) (fun _ _ _ h => h) (Or.inl ⟨by kernel_rfl, ?_⟩) HS0 ?_
 rotate_left
 · intro W hW; (try dsimp only at hW); go_simp; try (with_reducible rfl)
 refine wpAnyH_take (i := 18) (v := ?_) rfl (by kernel_rfl) (by kernel_rfl) (by kernel_rfl) (fun _ _ _ h => h) (Or.inl ⟨by kernel_rfl, ?_⟩) HS0 ?_
 rotate_left
 · intro W hW; (try dsimp only at hW); go_simp; try (with_reducible rfl)
 refine wpAnyH_take (i := 19) (v := ?_) rfl (by kernel_rfl) (by kernel_rfl) (by kernel_rfl) (fun _ _ _ h => h) (Or.inl ⟨by kernel_rfl, ?_⟩) HS0 ?_
 rotate_left
 · intro W hW; (try dsimp only at hW); go_simp; try (with_reducible rfl)
 refine wpAnyH_take (i := 20) (v := ?_) rfl (by kernel_rfl) (by kernel_rfl) (by kernel_rfl) (fun _ _ _ h => h) (Or.inl ⟨by kernel_rfl, ?_⟩) HS0 ?_
 rotate_left
 · intro W hW; (try dsimp only at hW); go_simp; try (with_reducible rfl)
 refine wpAnyH_take (i := 21) (v := ?_) rfl (by kernel_rfl) (by kernel_rfl) (by kernel_rfl) (fun _ _ _ h => h) (Or.inl ⟨by kernel_rfl, ?_⟩) HS0 ?_
 rotate_left
 · intro W hW; (try dsimp only at hW); go_simp; try (with_reducible rfl)
 refine wpAnyH_take (i := 22) (v := ?_) rfl (by kernel_rfl) (by kernel_rfl) (by kernel_rfl) (fun _ _ _ h => h) (Or.inl ⟨by kernel_rfl, ?_⟩) HS0 ?_
 rotate_left
 · intro W hW; (try dsimp only at hW); go_simp; try (with_reducible rfl)
 refine wpAnyH_take (i := 23) (v := ?_) rfl (by kernel_rfl) (by kernel_rfl) (by kernel_rfl) (fun _ _ _ h => h) (Or.inl ⟨by kernel_rfl, ?_⟩) HS0 ?_
 rotate_left
 · intro W hW; (try dsimp only at hW); go_simp; try (with_reducible rfl)
 refine wpAnyH_take (i := 24) (v := ?_) rfl (by kernel_rfl) (by kernel_rfl) (by kernel_rfl) (fun _ _ _ h => h) (Or.inl ⟨by kernel_rfl, ?_⟩) HS0 ?_
 rotate_left
 · intro W hW; (try dsimp only at hW); go_simp; try (with_reducible rfl)
 refine wpAnyH_take (i := 25) (v := ?_) rfl (by kernel_rfl) (by kernel_rfl) (by kernel_rfl) (fun _ _ _ h => h) (Or.inl ⟨by kernel_rfl, ?_⟩) HS0 ?_
 rotate_left
 · intro W hW; (try dsimp only at hW); go_simp; try (with_reducible rfl)
 refine wpAnyH_take (i := 26) (v := ?_) rfl (by kernel_rfl) (by kernel_rfl) (by kernel_rfl) (fun _ _ _ h => h) (Or.inl ⟨by kernel_rfl, ?_⟩) HS0 ?_
 rotate_left
 · intro W hW; (try dsimp only at hW); go_simp; try (with_reducible rfl)
 refine wpAnyH_take (i := 27) (v := ?_) rfl (by kernel_rfl) (by kernel_rfl) (by kernel_rfl) (fun _ _ _ h => h) (Or.inl ⟨by kernel_rfl, ?_⟩) HS0 ?_
 rotate_left
 · intro W hW; (try dsimp only at hW); go_simp; try (with_reducible rfl)
 refine wpAnyH_take (i := 28) (v := ?_) rfl (by kernel_rfl) (by kernel_rfl) (by kernel_rfl) (fun _ _ _ h => h) (Or.inl ⟨by kernel_rfl, ?_⟩) HS0 ?_
 rotate_left
 · intro W hW; (try dsimp only at hW); go_simp; try (with_reducible rfl)
 refine wpAnyH_take (i := 29) (v := ?_) rfl (by kernel_rfl) (by kernel_rfl) (by kernel_rfl) (fun _ _ _ h => h) (Or.inl ⟨by kernel_rfl, ?_⟩) HS0 ?_
 rotate_left
 · intro W hW; (try dsimp only at hW); go_simp; try (with_reducible rfl)
 clear HS0
 refine wpAnyH_done (by kernel_rfl) ?_ _
 refine NoPanic.normal ?_
 (try go_simp)
 go_wp2
 go_roundw
 case rel => exact ⟨j + 1 + 1, by go_num, by omega, below_next HBW.out (HBx0.out)⟩
 case measure => simp [intOf]; omega
            }
        · have hltz : ¬ (i : Int) < (zs.length : Int) := by omega
          have HCS := Lib.hid (HCO.out wr (below_next HB2.out HBW.out) B1 d1 zs (HP2.out.old HBW.out) HVAL.out)
          have HX3 := Lib.hid (HX2.out.on HBW.out)
          go_wp2_with fail
          (with_reducible refine (HCS.out).mono ?_)
          rintro e w3 ⟨⟨v3, rfl, hv3, hb3⟩, hsz3⟩
          obtain ⟨b3, C1, d3, l3, C2, d4, l4, rfl⟩ := hv3.shape
          obtain ⟨W4, hW4⟩ : ∃ W, W = w3.alloc (.cells #[.bool b3, .slice C1 l3.length d3, .slice C2 l4.length d4] 31) := ⟨_, rfl⟩
          obtain ⟨bl, hbl⟩ : ∃ b, b = w3.heap.size := ⟨_, rfl⟩
          have hb34 : Below w3.heap.size w3 W4 := by rw [hW4]; exact (Below.refl _ w3).alloc (Nat.le_refl _) _
          have HV4 := Lib.hid (show VarQ W4 bl (costR l pen.toNat 0 zs) by rw [hW4, hbl]; exact VarQ.laid hv3)
          have HX4 := Lib.hid (HX3.out.on (below_next hb3 hb34))
          have HB4 := Lib.hid (below_next HB2.out (below_next HBW.out (below_next hb3 hb34)))
          obtain ⟨bL, L1, n1, m1, L2, n2, m2, hgl, hfl⟩ := HV4.out.get
          have HGL := Lib.hid hgl
          have HFL4 := Lib.hid hfl
          have HSL := Lib.hid hsz3
          have HRT := Lib.hid (show Calls Tryz.prog 9 #[.agg #[.bool b3, .slice C1 l3.length d3, .slice C2 l4.length d4], .int .i64 2000] W4 fun e w' => e = .returned (.tuple #[.agg #[.string S1, .string S2], .bool (fitQ (chQ l pen))]) ∧ Below W4.heap.size W4 w' by
            have h5 := rRatioT_any _ _ W4 (hv3.on hb34) (sz_mono hsz3 (by omega)) (HTB.out W4 HB4.out)
            rw [← HQ.out, HS.out] at h5
            exact h5)
          clear hv3 hb3 hb34 hgl hfl hsz3 HCS
          go_wp2_with fail
          rw [← hW4, ← hbl]
          clear hW4 hbl
          (with_reducible refine (HRT.out).mono ?_)
          rintro e w5 ⟨rfl, hb5⟩
          obtain ⟨fb, hfb⟩ : ∃ b, b = fitQ (chQ l pen) := ⟨_, rfl⟩
          rw [← hfb]
          obtain ⟨W6, hW6⟩ : ∃ W, W = w5.alloc (.cells #[.string S1, .string S2] 24) := ⟨_, rfl⟩
          obtain ⟨k2, hk2⟩ : ∃ b, b = w5.heap.size := ⟨_, rfl⟩
          have hb56 : Below w5.heap.size w5 W6 := by rw [hW6]; exact (Below.refl _ w5).alloc (Nat.le_refl _) _
          have hx6 := HX4.out.on (below_next hb5 hb56)
          have hy6 : Txt2 W6 k2 S1 S2 := by rw [hW6, hk2]; exact alloc_at _ _ _ rfl
          have HB6 := Lib.hid (below_next HB4.out (below_next hb5 hb56))
          have HGL6 := Lib.hid (fun W (hW : Below W6.heap.size W6 W) => HGL.out W (below_next (below_next hb5 hb56) hW))
          have HFL := Lib.hid (HFL4.out.on (below_next hb5 hb56))
          obtain ⟨x0, x1, -⟩ := hx6.facts
          obtain ⟨y0, y1, -⟩ := hy6.facts
          rw [hW6, hk2] at y0 y1
          rw [hW6] at x0 x1
          clear hb5 hb56 hx6 hy6 hfb
          go_wp2_with fail
          rw [← hW6, ← hk2]
          clear hW6 hk2 x0 x1 y0 y1
          obtain ⟨M, hM⟩ : ∃ m : Nat, m = 2 ^ (l.length - 1) := ⟨_, rfl⟩
          have hsh : wrap64 (2 ^ (l.length - 1)) = (M : Int) ∧ M ≤ 64 := by
            rw [hM]
            have h8 : l.length = 1 ∨ l.length = 2 ∨ l.length = 3 ∨ l.length = 4 ∨ l.length = 5 ∨ l.length = 6 ∨ l.length = 7 := by omega
            rcases h8 with h | h | h | h | h | h | h <;> rw [h] <;> exact ⟨by decide +kernel, by decide +kernel⟩
          have HSH := Lib.hid hsh.1
          have hM64 := hsh.2
          clear hM hsh
          go_loopw [12] (fun iv wr => ∃ n : Nat, iv = .int .i64 (n : Int) ∧ n ≤ M ∧ Below W6.heap.size W6 wr) (fun iv _ => M - (intOf iv).toNat)
          case atStart => exact ⟨0, rfl, Nat.zero_le _, Below.refl _ _⟩
          case round =>
            obtain ⟨n, rfl, hn, hbn⟩ := hrel
            have HBN := Lib.hid hbn
            clear hbn HX4 HP2 HX3
            by_cases hnM : n < M
            · obtain ⟨wn, rfl⟩ : ∃ W : World, W = wr := ⟨_, rfl⟩
              have hnz : (n : Int) < wrap64 (2 ^ (l.length - 1)) := by rw [HSH.out]; omega
              go_wp2
              go_loopw [13, 14] (fun av iv wr => ∃ (i : Nat) (at' : List Nat), iv = .int .i64 (i : Int) ∧ 1 ≤ i ∧ i ≤ l.length ∧ Val 0 i at' ∧ wr.ownsRow wn.heap.size 3 1 av at'.length (nInts at') ∧ Below wn.heap.size wn wr) (fun _ iv _ => l.length - (intOf iv).toNat)
              case atStart => exact ⟨1, [], rfl, Nat.le_refl _, g0, trivial, ⟨by simp [nInts], .inl ⟨rfl, rfl⟩⟩, Below.refl _ _⟩
              case round =>
                obtain ⟨i, at', rfl, hi1, hi2, hva, hown, hbi⟩ := hrel
                have HVA := Lib.hid hva
                have HOW := Lib.hid hown
                have HBI := Lib.hid hbi
                clear hva hown hbi
                by_cases hil : i < l.length
                · have hilz : (i : Int) < (l.length : Int) := by omega
                  have hw1 : IntKind.i64.wrap ((i : Int) - 1) = (i : Int) - 1 := IntWalk.i64_in _ (by omega)
                  have hi0 : (0 : Int) ≤ (i : Int) - 1 := by omega
                  obtain ⟨i0, hi0', hz0, hz1, hz2⟩ := info_parts Tryz.infoI4
                  have hal := Val.length_le HVA.out (by omega)
                  have hbs := HBI.out.size
                  go_wp2_with (at_builtin; refine wpList_append_own _ rfl (.tmp 99) (.tmp 101) 22 rfl wn.heap.size 3 i0 _ 1 8 Tryz.underlying22 hi0' hz0 hz1 hz2 rfl (by decide) _ at'.length _ rfl (HOW.out.alloc _) ⟨wr.heap.size, 0, none⟩ 1 1 [.int .i64 (i : Int)] rfl rfl (cell_one_new wr _ 3) (by simp [Value.oneCell']) (by unfold maxLen; omega) (by omega) (by simp; omega) ?_)
                  · intro v' w6 hown6 hgr6 _
                    have hown7 : w6.ownsRow wn.heap.size 3 1 v' (at' ++ [i]).length (nInts (at' ++ [i])) := by rw [← nInts_app, List.length_append]; exact hown6
                    have HO7 := Lib.hid hown7
                    have HB7 := Lib.hid (show Below wn.heap.size wn w6 from (HBI.out.alloc hbs _).trans ((Fr.of_grown hgr6).below (B := wn.heap.size) (by simp; omega) (fun q hq hm => by have := (ownsRow_block HOW.out hm).1; omega)))
                    clear hown6 hgr6 hown7
                    go_wp2
                    go_roundw
                    case rel => exact ⟨i + 1, at' ++ [i], by go_num, by omega, by omega, HVA.out.snoc (by omega) (by omega), HO7.out, HB7.out⟩
                    case measure => simp [intOf]; omega
                  · refine ⟨⟨i + 1, at', by go_num, by omega, by omega, HVA.out.up (by omega), HOW.out, HBI.out⟩, ?_⟩
                    simp [intOf]; omega
                · have hilz : ¬ (i : Int) < (l.length : Int) := by omega
                  obtain rfl : i = l.length := by omega
                  obtain ⟨wi, rfl⟩ : ∃ W : World, W = wr := ⟨_, rfl⟩
                  obtain ⟨zz, rfl⟩ : ∃ z, z = at' := ⟨_, rfl⟩
                  obtain ⟨Az, cz, rfl, -, -, -⟩ := ownsRow_shape HOW.out
                  have hrd := (Rd.of_own HOW.out).more (Nat.zero_le _) (Nat.le_refl _)
                  have HBNI := Lib.hid (below_next HBN.out HBI.out)
                  have HCA := Lib.hid (fun X (hX : Below wi.heap.size wi X) => HCO.out X (below_next HB6.out (below_next HBNI.out hX)) Az cz zz (hrd.old hX) HVA.out)
                  have HVZ := Lib.hid HVA.out
                  have HKS22 := Lib.hid (show ∀ X, Below wi.heap.size wi X → (fun X => Below wi.heap.size wi X ∧ X.cell? ⟨bl, 0, none⟩ = some (.bool bL) ∧ X.cell? ⟨bl, 1, none⟩ = some (.slice L1 m1.length n1) ∧ X.cell? ⟨bl, 2, none⟩ = some (.slice L2 m2.length n2)) X from fun X hX => by
                    obtain ⟨q0, q1, q2, -⟩ := HGL6.out X (below_next HBNI.out hX)
                    exact ⟨hX, q0, q1, q2⟩)
                  clear hrd HOW HVA
                  go_wp2_with fail
                  skip
                  {
 refine wp_region_noPanic ?_
 refine wp_region_held_drew (S := (fun X => Below wi.heap.size wi X ∧ X.cell? ⟨bl, 0, none⟩ = some (.bool bL) ∧ X.cell? ⟨bl, 1, none⟩ = some (.slice L1 m1.length n1) ∧ X.cell? ⟨bl, 2, none⟩ = some (.slice L2 m2.length n2))) (by kernel_rfl) (HKS22.out _ (Below.refl _ wi).drew) (fun HS0 => ?_)
 have hbx0 : Below wi.heap.size wi wi.drew := (Below.refl _ _).drew
 obtain ⟨Xx0, hXx0⟩ : ∃ X, X = wi.drew := ⟨_, rfl⟩
 rw [← hXx0] at hbx0 HS0 ⊢
 have HBx0 := Lib.hid hbx0
 clear hbx0 hXx0
 refine wpAnyH_take (i := 0) (v := ?_) rfl (by kernel_rfl) (by kernel_rfl) (by kernel_rfl) (fun _ _ _ h => h) (Or.inl ⟨by kernel_rfl, ?_⟩) HS0 ?_
 rotate_left
 · intro W hW; (try dsimp only at hW); go_simp; try (with_reducible rfl)
 refine wpAnyH_take (i := 1) (v := ?_) rfl (by kernel_rfl) (by kernel_rfl) (by kernel_rfl) (fun _ _ _ h => h) (Or.inl ⟨by kernel_rfl, ?_⟩) HS0 ?_
 rotate_left
 · intro W hW; (try dsimp only at hW); go_simp; try (with_reducible rfl)
 refine wpAnyH_take (i := 2) (v := ?_) rfl (by kernel_rfl) (by kernel_rfl) (by kernel_rfl) (fun _ _ _ h => h) (Or.inl ⟨by kernel_rfl, ?_⟩) HS0 ?_
 rotate_left
 · intro W hW; (try dsimp only at hW); go_simp; try (with_reducible rfl)
 refine wpAnyH_take (i := 4) (v := ?_) rfl (by kernel_rfl) (by kernel_rfl) (by kernel_rfl) (fun _ _ _ h => h) (Or.inl ⟨by kernel_rfl, ?_⟩) HS0 ?_
 rotate_left
 · intro W hW; (try dsimp only at hW); go_simp; try (with_reducible rfl)
 clear HS0
 refine run_one (i := 3) (by kernel_rfl) rfl rfl ?_
 intro K hK
 go_simp
 (with_reducible refine (HCA.out Xx0 (HBx0.out)).mono ?_)
 rintro e Xx1 ⟨⟨vC, rfl, hvC, hbx1⟩, hsC⟩
 have HBx1 := Lib.hid (below_next (HBx0.out) hbx1)
 refine hK.out _ _ (HKS22.out _ HBx1.out) ?_
 clear hK K
 intro _
 refine run_one (i := 5) (by kernel_rfl) rfl rfl ?_
 intro K hK
 go_simp
 (with_reducible refine (rOrder_any 200 vC _ _ _ Xx1 (by omega) hvC (HFL.out.on (below_next HBNI.out (HBx1.out))) hsC HSL.out).mono ?_)
 rintro e Xx2 ⟨rfl, hbx2⟩
 have HBx2 := Lib.hid (below_next (HBx1.out) hbx2)
 refine hK.out _ _ (HKS22.out _ HBx2.out) ?_
 clear hK K
 intro _
 have HS0 := HKS22.out _ (HBx2.out)
 refine wpAnyH_take (i := 6) (v := ?_) rfl (by kernel_rfl) (by kernel_rfl) (by kernel_rfl) (fun _ _ _ h => h) (Or.inl ⟨by kernel_rfl, ?_⟩) HS0 ?_
 rotate_left
 · intro W hW; (try dsimp only at hW); go_simp; try (with_reducible rfl)
 clear HS0
 refine wpAnyH_done (by kernel_rfl) ?_ _
 refine NoPanic.normal ?_
 (try go_simp)
 obtain ⟨cv, hcv⟩ : ∃ z, z = ordQ (costR l pen.toNat 0 zz) (costR l pen.toNat 0 zs) := ⟨_, rfl⟩
 rw [← hcv]
 obtain ⟨o1, o2⟩ := ord_least (HLE.out zz HVZ.out) hcv
 clear hcv
 by_cases hz : cv = 0
 · subst hz
   have o3 := o2 rfl
   have o3z : ¬ (zz.length : Int) < (zs.length : Int) := by omega
   have o3n : ¬ zz.length < zs.length := by omega
   clear o1 o2
   go_wp2
   go_roundw
   case rel => exact ⟨n + 1, by go_num, by omega, below_next HBN.out (below_next HBI.out (HBx2.out))⟩
   case measure => simp [intOf]; omega
 · have hzb : (cv == 0) = false := by rw [beq_eq_false_iff_ne]; exact hz
   clear o2
   go_wp2
   go_roundw
   case rel => exact ⟨n + 1, by go_num, by omega, below_next HBN.out (below_next HBI.out (HBx2.out))⟩
   case measure => simp [intOf]; omega
                  }
            · have hnz : ¬ (n : Int) < wrap64 (2 ^ (l.length - 1)) := by rw [HSH.out]; omega
              go_wp2_with fail
              (with_reducible refine (HH.out _ (below_next HB6.out HBN.out)).mono ?_)
              rintro e w9 ⟨rfl, hb9⟩
              have HB9 := Lib.hid (below_next HB6.out (below_next HBN.out hb9))
              clear hb9
              go_wp2
              go_ret
              exact ⟨by rfl, HB9.out⟩
  · have HJ := Lib.hid (hj.mono fun e w' h => (show e = .returned (.tuple #[.slice none 0 0, .agg #[.string ⟨#[]⟩, .string ⟨#[]⟩], .int .i64 (chC l pen)]) ∧ Below w.heap.size w w' by
      rcases h with ⟨_, h1, h2⟩ | ⟨h1, _⟩
      · exact ⟨h1, h2⟩
      · exact absurd h1 hc0))
    obtain ⟨ec, hec⟩ : ∃ z, z = chC l pen := ⟨_, rfl⟩
    rw [← hec] at hc0 HJ
    have hez : (ec != 0) = true := by rw [bne_iff_ne]; exact hc0
    clear hec htab hr hj hm
    go_enter Tryz.func3, Tryz.ntmps3
    go_wp2_with fail
    (with_reducible refine (HJ.out).mono ?_)
    rintro e w1 ⟨rfl, hb1⟩
    obtain ⟨W2, hW2⟩ : ∃ W2, W2 = w1.alloc (.cells #[.string ⟨#[]⟩, .string ⟨#[]⟩] 24) := ⟨_, rfl⟩
    have hb12 : Below w1.heap.size w1 W2 := by rw [hW2]; exact (Below.refl _ w1).alloc (Nat.le_refl _) _
    have HB2 := Lib.hid (below_next hb1 hb12)
    clear hb1 hb12
    go_wp2_with fail
    rw [← hW2]
    clear hW2
    (with_reducible refine (HH.out _ HB2.out).mono ?_)
    rintro e w3 ⟨rfl, hb3⟩
    have HB3 := Lib.hid (below_next HB2.out hb3)
    clear hb3
    go_wp2
    go_ret
    exact ⟨by rfl, HB3.out⟩
end Go.Proofs.YtnpfdelklolchaaGreatDoor
