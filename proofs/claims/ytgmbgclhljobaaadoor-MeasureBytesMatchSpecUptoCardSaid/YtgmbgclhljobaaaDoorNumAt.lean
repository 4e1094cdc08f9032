/- The reference's numberAt. -/
import Derived.Test.YtgmbgclhljobaaaDoorSrcNum
namespace Go.Proofs.YtgmbgclhljobaaaDoor
open Go Go.RowKit Go.Proofs Go.Maps

/-- what numberAt returns -/
def NumAtPost (l : List UInt8) (at_ : Nat) (w : World) (e : Ending) (w' : World) : Prop :=
  ∃ a : Nat, e = .returned (.tuple #[.int .i64 (rdN 0 0 (l.drop at_)).2.1, .int .i64 a, .int .i64 (rdN 0 0 (l.drop at_)).1]) ∧ ((rdN 0 0 (l.drop at_)).1 = 0 → a ≤ l.length ∧ l.drop a = (rdN 0 0 (l.drop at_)).2.2) ∧ w = w'
def NaRel (l : List UInt8) (at_ k acc a : Nat) : Prop := k ≤ 8 ∧ acc < 128 ^ k ∧ a ≤ l.length ∧ rdN k acc (l.drop a) = rdN 0 0 (l.drop at_)

set_option maxHeartbeats 2000000 in
set_option maxRecDepth 100000 in
theorem numberAt_any (A : Option Addr) (c B : Nat) (l : List UInt8) (at_ : Nat) (w : World) (hr : Rd w 0 B 1 A l.length (Lib.byteCells l)) (hat : at_ ≤ l.length) (hl : l.length ≤ 4611686018427387904) :
    Calls Tryd.prog 70 #[.slice A l.length c, .int .i64 at_] w (NumAtPost l at_ w) := by
  have HR := Lib.hid hr
  clear hr
  go_enter Tryd.func70, Tryd.ntmps70
  go_wp2
  go_loop [1, 7, 8, 9, 10] (fun t n s i _ => ∃ (k acc a : Nat), t = .int .i64 a ∧ n = .int .i64 acc ∧ s = .int .i64 ((128 ^ k : Nat) : Int) ∧ i = .int .i64 k ∧ NaRel l at_ k acc a) (fun _ _ _ i _ => 9 - (intOf i).toNat)
  case atStart => exact ⟨0, 0, at_, rfl, rfl, rfl, rfl, by omega, by simp, hat, rfl⟩
  case round =>
    obtain ⟨k, acc, a, rfl, rfl, rfl, rfl, hk, hacc, ha, hrd⟩ := hrel
    have hP1 : 128 ^ k ≤ 72057594037927936 := by
      have : (128 : Nat) ^ k ≤ 128 ^ 8 := Nat.pow_le_pow_right (by omega) hk
      omega
    have HPS := Lib.hid (show 128 ^ (k + 1) = 128 * 128 ^ k by rw [Nat.pow_succ]; omega)
    obtain ⟨P, hP⟩ : ∃ P, P = 128 ^ k := ⟨_, rfl⟩
    rw [← hP] at hacc hP1 HPS ⊢
    have HP := Lib.hid hP
    have HRD := Lib.hid hrd
    clear hP hrd
    by_cases hlt : a < l.length
    · have t0 : decide (l.length ≤ a) = false := by simp; omega
      obtain ⟨g, o, u, rfl, hgB, hu, hcell⟩ := HR.out.at1 hlt
      obtain ⟨x, hx, rfl⟩ := byteCells_get hu
      have hdrop : l.drop a = x :: l.drop (a + 1) := by
        have hx' := (List.getElem?_eq_some_iff.1 hx).2
        rw [List.drop_eq_getElem_cons hlt, hx']
      have hxl := x.toNat_lt
      obtain ⟨y, hy⟩ : ∃ y, y = x.toNat := ⟨_, rfl⟩
      have HY := Lib.hid hy
      have HD := Lib.hid hdrop
      rw [← hy] at hcell hxl
      clear hy hdrop hu hx
      by_cases h128 : y < 128
      · have t1 : decide ((y : Int) < 128) = true := by simp; omega
        have hm0 : (0 : Int) ≤ (y : Int) * (P : Int) := Int.mul_nonneg (by omega) (by omega)
        have hm1 : (y : Int) * (P : Int) ≤ 9151314442816847872 := by
          have : y * P ≤ 127 * 72057594037927936 := Nat.mul_le_mul (by omega) hP1
          have e : ((y * P : Nat) : Int) = (y : Int) * (P : Int) := by simp
          omega
        by_cases h0 : y = 0 ∧ 0 < k
        · have t3 : ((y : Int) == 0) = true := by simp; omega
          have t4 : decide ((0 : Int) < ↑k) = true := by simp; omega
          have t5 : decide (0 < k) = true := by simp; omega
          have HE := Lib.hid (show (2, 0, l.drop (a + 1)) = rdN 0 0 (l.drop at_) from by rw [← HRD.out, HD.out, rdN, ← HY.out, if_pos h128, if_pos h0])
          clear h0
          go_wp2
          go_ret3
          refine ⟨a + 1, ?_, ?_, rfl⟩
          · rw [← HE.out]; rfl
          · rw [← HE.out]; intro h; simp at h
        · have HE := Lib.hid (show (0, acc + y * P, l.drop (a + 1)) = rdN 0 0 (l.drop at_) from by rw [← HRD.out, HD.out, rdN, ← HY.out, if_pos h128, if_neg h0, HP.out])
          have HFIN := Lib.hid (show ∀ v : Int, v = (acc : Int) + (y : Int) * (P : Int) → NumAtPost l at_ w (.returned (.tuple #[.int .i64 v, .int .i64 ((a : Int) + 1), .int .i64 0])) w from by
            intro v hv
            refine ⟨a + 1, ?_, ?_, rfl⟩
            · rw [← HE.out, hv]; simp
            · rw [← HE.out]; intro _; exact ⟨by omega, rfl⟩)
          by_cases hy0 : y = 0
          · have t3 : ((y : Int) == 0) = true := by simp; omega
            have t4 : decide ((0 : Int) < ↑k) = false := by simp; omega
            have t5 : decide (0 < k) = false := by simp; omega
            clear h0 hy0
            go_wp2
            go_ret3
            exact HFIN.out _ rfl
          · have t3 : ((y : Int) == 0) = false := by simp; omega
            clear h0
            go_wp2
            go_ret3
            exact HFIN.out _ rfl
      · have t1 : decide ((y : Int) < 128) = false := by simp; omega
        by_cases h8 : k = 8
        · have t4 : ((k : Int) == 8) = true := by simp; omega
          have HE := Lib.hid (show (2, 0, l.drop (a + 1)) = rdN 0 0 (l.drop at_) from by rw [← HRD.out, HD.out, rdN, ← HY.out, if_neg h128, if_pos h8])
          clear h8
          go_wp2
          go_ret3
          refine ⟨a + 1, ?_, ?_, rfl⟩
          · rw [← HE.out]; rfl
          · rw [← HE.out]; intro h; simp at h
        · have t4 : ((k : Int) == 8) = false := by simp; omega
          have hP2 : P ≤ 562949953421312 := by
            have : (128 : Nat) ^ k ≤ 128 ^ 7 := Nat.pow_le_pow_right (by omega) (by omega)
            rw [HP.out]; omega
          have hm0 : (0 : Int) ≤ ((y : Int) - 128) * (P : Int) := Int.mul_nonneg (by omega) (by omega)
          have hm1 : ((y : Int) - 128) * (P : Int) ≤ 72057594037927936 := by
            have : (y - 128) * P ≤ 127 * 562949953421312 := Nat.mul_le_mul (by omega) hP2
            have e : (((y - 128) * P : Nat) : Int) = ((y : Int) - 128) * (P : Int) := by
              rw [Int.natCast_mul, show ((y - 128 : Nat) : Int) = (y : Int) - 128 by omega]
            omega
          have HC := Lib.hid (show (((y - 128) * P : Nat) : Int) = ((y : Int) - 128) * (P : Int) by rw [Int.natCast_mul, show ((y - 128 : Nat) : Int) = (y : Int) - 128 by omega])
          have HE := Lib.hid (show rdN (k + 1) (acc + (y - 128) * P) (l.drop (a + 1)) = rdN 0 0 (l.drop at_) from by rw [← HRD.out, HD.out, rdN, ← HY.out, if_neg h128, if_neg h8, HP.out])
          have HA := Lib.hid (show acc + (y - 128) * P < 128 ^ (k + 1) by
            have h1 : (y - 128) * P ≤ 127 * P := Nat.mul_le_mul_right _ (by omega)
            rw [HPS.out]; omega)
          go_wp2
          go_round
          case rel =>
            refine ⟨k + 1, acc + (y - 128) * P, a + 1, by go_num, ?_, ?_, by go_num, by omega, HA.out, by omega, HE.out⟩
            · rw [Int.natCast_add, HC.out]
            · rw [HPS.out]; simp
          case measure => simp [intOf]; omega
    · have t0 : decide (l.length ≤ a) = true := by simp; omega
      have HE := Lib.hid (show (16, 0, []) = rdN 0 0 (l.drop at_) from by rw [← HRD.out, List.drop_of_length_le (by omega)]; rfl)
      go_wp2
      go_ret3
      refine ⟨a, ?_, ?_, rfl⟩
      · rw [← HE.out]; rfl
      · rw [← HE.out]; intro h; simp at h
end Go.Proofs.YtgmbgclhljobaaaDoor
