/- The source's number. -/
import Derived.Test.YtgmbgclhljobaaaDoorSrc
namespace Go.Proofs.YtgmbgclhljobaaaDoor
open Go Go.RowKit Go.Proofs Go.Maps

theorem number_err (B K : Nat) (l : List UInt8) (no : Int) (w : World) (h : SrcAt w B K l no) (hno : no ≠ 0) :
    Calls Tryd.prog 68 #[.pointer (some ⟨K, 0, none⟩)] w fun e w' => e = .returned (.int .i64 0) ∧ w = w' := by
  have HB := Lib.hid (byte_err B K l no w h hno)
  obtain ⟨A, c, h1, h2, h3, h4, h5⟩ := h
  have c1 : w.cell? ⟨K, 1, none⟩ = some (.int .i64 no) := by rw [cellsAt h1]; rfl
  have n2 : (no != 0) = true := by simpa using hno
  clear h1 h2 hno
  go_enter Tryd.func68, Tryd.ntmps68
  go_wp2
  refine wp_loop_rounds 1 ?_
  rw [rounds_succ]
  go_wp2_with (go_at_call 67; refine HB.out.mono ?_; rintro e w' ⟨rfl, rfl⟩)
  go_ret
  exact ⟨rfl, rfl⟩

theorem and127 : ∀ x : Nat, x < 256 → bits .and .u8 (x : Int) 127 = ((x % 128 : Nat) : Int) := by decide +kernel
theorem i64_or_nat (a b : Nat) (ha : a < 9223372036854775808) (hb : b < 9223372036854775808) : bits .or .i64 (a : Int) (b : Int) = ((a ||| b : Nat) : Int) := by
  have hab : a ||| b < 2 ^ 63 := Nat.or_lt_two_pow (by simpa using ha) (by simpa using hb)
  show IntKind.i64.wrap ((BitVec.ofInt 64 (a : Int) ||| BitVec.ofInt 64 (b : Int)).toNat : Int) = _
  rw [BitVec.toNat_or, ofInt_i64 a ha, ofInt_i64 b hb, IntKind.wrap_i64]
  omega
theorem orN {x acc k : Nat} (hx : x < 256) (hk : k ≤ 8) (ha : acc < 128 ^ k) : bits .or .i64 (acc : Int) (wrap64 (wrap64 (bits .and .u8 (x : Int) 127) * 2 ^ (7 * k))) = ((acc + (x % 128) * 128 ^ k : Nat) : Int) := by
  have hp : (128 : Nat) ^ k = 2 ^ (7 * k) := by rw [Nat.pow_mul]
  have hle : 2 ^ (7 * k) ≤ 2 ^ 56 := Nat.pow_le_pow_right (by omega) (by omega)
  rw [and127 x hx]
  have hm : x % 128 * 2 ^ (7 * k) ≤ 127 * 2 ^ 56 := Nat.mul_le_mul (by omega) hle
  have e1 : wrap64 (((x % 128 : Nat) : Int)) = ((x % 128 : Nat) : Int) := IntWalk.wrap64_in _ ⟨by omega, by omega⟩
  have e2 : (((x % 128 : Nat) : Int)) * 2 ^ (7 * k) = ((x % 128 * 2 ^ (7 * k) : Nat) : Int) := by simp
  rw [e1, e2]
  have e3 : wrap64 ((x % 128 * 2 ^ (7 * k) : Nat) : Int) = ((x % 128 * 2 ^ (7 * k) : Nat) : Int) := IntWalk.wrap64_in _ ⟨by omega, by omega⟩
  rw [e3, i64_or_nat acc _ (by rw [hp] at ha; omega) (by omega), hp]
  rw [hp] at ha
  have h4 := Nat.shiftLeft_add_eq_or_of_lt ha (x % 128)
  rw [Nat.shiftLeft_eq] at h4
  rw [Nat.or_comm, ← h4, Nat.add_comm]
def NuRel (w wr : World) (B K : Nat) (l : List UInt8) (i acc : Nat) (l' : List UInt8) : Prop :=
  i ≤ 8 ∧ acc < 128 ^ i ∧ rdN i acc l' = rdN 0 0 l ∧ SrcAt wr B K l' 0 ∧ Fr (fun i => i = K) w wr

set_option maxHeartbeats 2000000 in
set_option maxRecDepth 100000 in
theorem numberS_any (B K : Nat) (l : List UInt8) (w : World) (h : SrcAt w B K l 0) :
    Calls Tryd.prog 68 #[.pointer (some ⟨K, 0, none⟩)] w fun e w' => e = .returned (.int .i64 (rdN 0 0 l).2.1) ∧ SrcAt w' B K (rdN 0 0 l).2.2 (rdN 0 0 l).1 ∧ Fr (fun i => i = K) w w' := by
  have HS := Lib.hid h
  clear h
  go_enter Tryd.func68, Tryd.ntmps68
  go_wp2
  go_loopw [3, 4, 5, 6] (fun n _ _ i wr => ∃ (k acc : Nat) (l' : List UInt8), n = .int .i64 acc ∧ i = .int .i64 k ∧ NuRel w wr B K l k acc l') (fun _ _ _ i _ => 9 - (intOf i).toNat)
  case atStart => exact ⟨0, 0, l, rfl, rfl, by omega, by simp, rfl, HS.out, Fr.refl _ _⟩
  case round =>
    obtain ⟨k, acc, l', rfl, rfl, hk, hacc, hrd, hsrc, hfr⟩ := hrel
    have HRD := Lib.hid hrd
    have HSR := Lib.hid hsrc
    have HFR := Lib.hid hfr
    clear hrd hsrc hfr
    cases l' with
    | nil =>
      have HB := Lib.hid (byte_nil B K wr HSR.out)
      go_wp2_with fail
      refine HB.out.mono ?_
      rintro e w2 ⟨rfl, hs2, hf2⟩
      have c1 : w2.cell? ⟨K, 1, none⟩ = some (.int .i64 16) := by obtain ⟨A, c, h1, _⟩ := hs2; rw [cellsAt h1]; rfl
      have HS2 := Lib.hid hs2
      have HF2 := Lib.hid (HFR.out.trans hf2 (fun _ _ h => h))
      have HE := Lib.hid (show (16, 0, []) = rdN 0 0 l from by rw [← HRD.out]; rfl)
      clear hs2 hf2
      go_wp2
      go_ret
      rw [← HE.out]
      exact ⟨rfl, HS2.out, HF2.out⟩
    | cons x r =>
      have HB := Lib.hid (byte_cons B K x r wr HSR.out)
      go_wp2_with fail
      refine HB.out.mono ?_
      rintro e w2 ⟨rfl, hs2, hf2⟩
      have hx := x.toNat_lt
      have c1 : w2.cell? ⟨K, 1, none⟩ = some (.int .i64 0) := by obtain ⟨A, c, h1, _⟩ := hs2; rw [cellsAt h1]; rfl
      have z1 : w2.frozen? ⟨K, 1, none⟩ = false := by obtain ⟨A, c, h1, _⟩ := hs2; exact frozenAt h1 1
      have HS2 := Lib.hid hs2
      have HF2 := Lib.hid (HFR.out.trans hf2 (fun _ _ h => h))
      clear hs2 hf2
      have hor := orN (x := x.toNat) hx hk hacc
      have HOR := Lib.hid hor
      obtain ⟨y, hy⟩ : ∃ y, y = x.toNat := ⟨_, rfl⟩
      have HY := Lib.hid hy
      rw [← hy] at HOR hx ⊢
      clear hor hy
      by_cases h128 : y < 128
      · have t1 : decide ((127 : Int) < ↑y) = false := by simp; omega
        have t2 : decide ((y : Int) ≤ 127) = true := by simp; omega
        by_cases h0 : y = 0 ∧ 0 < k
        · have t3 : ((y : Int) == 0) = true := by simp; omega
          have t4 : decide ((0 : Int) < ↑k) = true := by simp; omega
          have t5 : decide (0 < k) = true := by simp; omega
          have HE := Lib.hid (show (2, 0, r) = rdN 0 0 l from by rw [← HRD.out, rdN, ← HY.out, if_pos h128, if_pos h0])
          have HS3 := Lib.hid (HS2.out.set1 2)
          have HF3 := Lib.hid (HF2.out.trans (fr_cell w2 K 1 (.int .i64 2)) (fun _ _ h => h))
          clear h0
          go_wp2
          go_ret
          rw [← HE.out]
          exact ⟨rfl, HS3.out, HF3.out⟩
        · have HE := Lib.hid (show (0, acc + y * 128 ^ k, r) = rdN 0 0 l from by rw [← HRD.out, rdN, ← HY.out, if_pos h128, if_neg h0])
          have hfin : ∀ v : Int, v = ((acc + y % 128 * 128 ^ k : Nat) : Int) → Ending.returned (Value.int .i64 v) = .returned (.int .i64 ((rdN 0 0 l).2.1 : Nat)) ∧ SrcAt w2 B K (rdN 0 0 l).2.2 (rdN 0 0 l).1 ∧ Fr (fun i => i = K) w w2 := by
            intro v hv
            rw [← HE.out, hv, Nat.mod_eq_of_lt h128]
            exact ⟨rfl, HS2.out, HF2.out⟩
          have HFIN := Lib.hid hfin
          clear hfin
          by_cases hy0 : y = 0
          · obtain rfl : k = 0 := by omega
            subst hy0
            clear h0
            go_wp2
            go_ret
            exact HFIN.out _ (by have := HOR.out; simpa using this)
          · have t3 : ((y : Int) == 0) = false := by simp; omega
            clear h0
            go_wp2
            go_ret
            exact HFIN.out _ HOR.out
      · have t1 : decide ((127 : Int) < ↑y) = true := by simp; omega
        have t2 : decide ((y : Int) ≤ 127) = false := by simp; omega
        have t3 : ((y : Int) == 0) = false := by simp; omega
        by_cases h8 : k = 8
        · have t4 : ((k : Int) == 8) = true := by simp; omega
          have HE := Lib.hid (show (2, 0, r) = rdN 0 0 l from by rw [← HRD.out, rdN, ← HY.out, if_neg h128, if_pos h8])
          have HS3 := Lib.hid (HS2.out.set1 2)
          have HF3 := Lib.hid (HF2.out.trans (fr_cell w2 K 1 (.int .i64 2)) (fun _ _ h => h))
          clear h8
          go_wp2
          go_ret
          rw [← HE.out]
          exact ⟨rfl, HS3.out, HF3.out⟩
        · have t4 : ((k : Int) == 8) = false := by simp; omega
          have hmod : y % 128 = y - 128 := by omega
          have HE := Lib.hid (show rdN (k + 1) (acc + y % 128 * 128 ^ k) r = rdN 0 0 l from by rw [← HRD.out, rdN, ← HY.out, if_neg h128, if_neg h8, hmod])
          have HA := Lib.hid (show acc + y % 128 * 128 ^ k < 128 ^ (k + 1) by
            have h1 : y % 128 * 128 ^ k ≤ 127 * 128 ^ k := Nat.mul_le_mul_right _ (by omega)
            rw [Nat.pow_succ]; omega)
          clear hmod
          go_wp2
          go_roundw
          case rel => exact ⟨k + 1, acc + y % 128 * 128 ^ k, r, congrArg _ HOR.out, by go_num, by omega, HA.out, HE.out, HS2.out, HF2.out⟩
          case measure => simp [intOf]; omega
end Go.Proofs.YtgmbgclhljobaaaDoor
