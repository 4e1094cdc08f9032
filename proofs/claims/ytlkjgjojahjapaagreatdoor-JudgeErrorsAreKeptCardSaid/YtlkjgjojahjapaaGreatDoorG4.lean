import Derived.Test.YtlkjgjojahjapaaGreatDoorG3
import Derived.Test.YtlkjgjojahjapaaGreatDoorShelf
import Derived.Deep.Cut
import Derived.Deep.CutRange
import Derived.Deep.CutBlock
import Derived.Laws.BitsAllLaws
import Derived.Lib.ItoaNum
import Derived.Shelf.Spec.BitsCarry
import Derived.OwnWalk
/- math/bits.Div64. -/
namespace Go.Proofs.YtlkjgjojahjapaaGreatDoor
open Go Go.RowKit Go.Proofs

theorem lz_bounds (y : Nat) (h0 : 0 < y) (h : y < 18446744073709551616) : ∃ s, s ≤ 63 ∧ Lib.bitLen y + s = 64 ∧ 9223372036854775808 ≤ y * 2 ^ s ∧ y * 2 ^ s < 18446744073709551616 := by
  obtain ⟨h1, h2, h3⟩ := Lib.bitLenAux_bounds 64 y (by simpa using h) (by omega)
  have h4 : Lib.bitLenAux 64 y ≤ 64 := Lib.bitLenAux_le 64 y 64 (by simpa using h)
  have e : Lib.bitLen y = Lib.bitLenAux 64 y := rfl
  obtain ⟨L, hL⟩ : ∃ L, L = Lib.bitLenAux 64 y := ⟨_, rfl⟩
  rw [← hL] at h1 h2 h3 h4 e
  refine ⟨64 - L, by omega, by omega, ?_, ?_⟩
  · have := Nat.mul_le_mul_right (2 ^ (64 - L)) h2
    rw [← Nat.pow_add, show L - 1 + (64 - L) = 63 by omega] at this
    exact this
  · have := Nat.mul_lt_mul_of_pos_right h3 (Nat.pow_pos (n := 64 - L) (show 0 < 2 by omega))
    rw [← Nat.pow_add, show L + (64 - L) = 64 by omega] at this
    exact this

set_option maxHeartbeats 1000000 in
set_option maxRecDepth 100000 in
theorem div64_zero (lo y : Nat) (w : World) (h1 : lo < 18446744073709551616) (hy : 1 ≤ y) (hy' : y < 18446744073709551616) :
    Calls Tryz.prog 132 #[.int .u64 0, .int .u64 lo, .int .u64 y] w fun e w' => e = .returned (.tuple #[.int .u64 ((lo / y : Nat) : Int), .int .u64 ((lo % y : Nat) : Int)]) ∧ ∃ n, w' = w.drewN n := by
  have t1 : ((y : Int) == 0) = false := by simp; omega
  have t2 : decide ((y : Int) ≤ 0) = false := by simp; omega
  obtain ⟨q, hq⟩ : ∃ q, q = lo / y := ⟨_, rfl⟩
  obtain ⟨r, hr⟩ : ∃ r, r = lo % y := ⟨_, rfl⟩
  have e1 : (lo : Int) / (y : Int) = (q : Int) := by rw [hq]; simp
  have e2 : (lo : Int) % (y : Int) = (r : Int) := by rw [hr]; simp
  have hqW : q < 18446744073709551616 := by rw [hq]; exact Nat.lt_of_le_of_lt (Nat.div_le_self _ _) h1
  rw [← hq, ← hr]
  clear hq hr
  go_enter Tryz.func132, Tryz.ntmps132
  go_wp2_with fail
  go_quiet (fail)
  go_wp2
  go_ret2
  refine ⟨?_, _, rfl⟩
  show Ending.returned (.tuple #[.int .u64 (q : Int), .int .u64 ((lo : Int) % (y : Int))]) = _
  rw [e2]

/-- the numbers that the division works with -/
theorem div64_nums (hi lo y s : Nat) (hs : s ≤ 63) (h1 : lo < 18446744073709551616) (hy : hi < y) (hY0 : 9223372036854775808 ≤ y * 2 ^ s) (hY1 : y * 2 ^ s < 18446744073709551616) :
    ∃ Y H L1 U N0 y1 y0 u1 u0 : Nat, Y = y * 2 ^ s ∧ IntKind.u64.wrap ((y : Int) * 2 ^ s) = (Y : Int) ∧ IntKind.u64.wrap ((hi : Int) * 2 ^ s) = (H : Int) ∧ (lo : Int) / 2 ^ (64 - s) = (L1 : Int) ∧ bits .or .u64 (H : Int) (L1 : Int) = (U : Int) ∧ IntKind.u64.wrap ((lo : Int) * 2 ^ s) = (N0 : Int) ∧
      (Y : Int) / 4294967296 = (y1 : Int) ∧ bits .and .u64 (Y : Int) 4294967295 = (y0 : Int) ∧ (N0 : Int) / 4294967296 = (u1 : Int) ∧ bits .and .u64 (N0 : Int) 4294967295 = (u0 : Int) ∧
      Y < 18446744073709551616 ∧ Y = y1 * 4294967296 + y0 ∧ y0 < 4294967296 ∧ y1 < 4294967296 ∧ 2147483648 ≤ y1 ∧ u1 < 4294967296 ∧ u0 < 4294967296 ∧ U < Y ∧ (U * 4294967296 + u1) * 4294967296 + u0 = (hi * 18446744073709551616 + lo) * 2 ^ s := by
  have hp : 0 < 2 ^ s := Nat.pow_pos (by omega)
  have hhi : hi * 2 ^ s + 2 ^ s ≤ y * 2 ^ s := by
    have := Nat.mul_le_mul_right (2 ^ s) (show hi + 1 ≤ y from hy)
    rwa [Nat.add_mul, Nat.one_mul] at this
  have e64 : 2 ^ (64 - s) * 2 ^ s = 18446744073709551616 := by rw [← Nat.pow_add, show 64 - s + s = 64 by omega]
  have hL : lo / 2 ^ (64 - s) < 2 ^ s := by
    rw [Nat.div_lt_iff_lt_mul (Nat.pow_pos (by omega)), Nat.mul_comm, e64]; exact h1
  have hlo := Nat.div_add_mod lo (2 ^ (64 - s))
  have hN0 : lo * 2 ^ s % 18446744073709551616 = lo % 2 ^ (64 - s) * 2 ^ s := by
    rw [← e64]; exact Nat.mul_mod_mul_right _ _ _
  have hU : hi * 2 ^ s ||| lo / 2 ^ (64 - s) = hi * 2 ^ s + lo / 2 ^ (64 - s) := nat_join s _ _ (Nat.mul_mod_left _ _) hL
  refine ⟨y * 2 ^ s, hi * 2 ^ s, lo / 2 ^ (64 - s), hi * 2 ^ s + lo / 2 ^ (64 - s), lo * 2 ^ s % 18446744073709551616, y * 2 ^ s / 4294967296, y * 2 ^ s % 4294967296, lo * 2 ^ s % 18446744073709551616 / 4294967296, lo * 2 ^ s % 18446744073709551616 % 4294967296,
    rfl, ?_, ?_, ?_, ?_, ?_, ?_, ?_, ?_, ?_, hY1, ?_, ?_, ?_, ?_, ?_, ?_, ?_, ?_⟩
  · rw [IntKind.wrap_u64, show ((y : Int) * 2 ^ s) = ((y * 2 ^ s : Nat) : Int) by simp]; omega
  · rw [IntKind.wrap_u64, show ((hi : Int) * 2 ^ s) = ((hi * 2 ^ s : Nat) : Int) by simp]; omega
  · simp
  · rw [u64_or_nat _ _ (by omega) (by omega), hU]
  · rw [IntKind.wrap_u64, show ((lo : Int) * 2 ^ s) = ((lo * 2 ^ s : Nat) : Int) by simp]; omega
  · omega
  · rw [show (4294967295 : Int) = ((4294967295 : Nat) : Int) from rfl, u64_and_nat _ _ hY1 (by omega)]
    exact congrArg Int.ofNat (Nat.and_two_pow_sub_one_eq_mod (y * 2 ^ s) 32)
  · omega
  · rw [show (4294967295 : Int) = ((4294967295 : Nat) : Int) from rfl, u64_and_nat _ _ (by omega) (by omega)]
    exact congrArg Int.ofNat (Nat.and_two_pow_sub_one_eq_mod (lo * 2 ^ s % 18446744073709551616) 32)
  · omega
  · omega
  · omega
  · omega
  · omega
  · omega
  · omega
  · have e1 : lo * 2 ^ s = lo / 2 ^ (64 - s) * 18446744073709551616 + lo * 2 ^ s % 18446744073709551616 := by
      rw [hN0]
      conv => lhs; rw [← hlo, Nat.add_mul, Nat.mul_comm (2 ^ (64 - s)), Nat.mul_assoc, e64]
    have e3 := Nat.add_mul (hi * 18446744073709551616) lo (2 ^ s)
    have e2 : hi * 18446744073709551616 * 2 ^ s = hi * 2 ^ s * 18446744073709551616 := Nat.mul_right_comm _ _ _
    omega

set_option maxHeartbeats 1000000 in
set_option maxRecDepth 100000 in
theorem div64_pos (hi lo y : Nat) (w : World) (h0 : 0 < hi) (h1 : lo < 18446744073709551616) (hy : hi < y) (hy' : y < 18446744073709551616) :
    Calls Tryz.prog 132 #[.int .u64 hi, .int .u64 lo, .int .u64 y] w fun e w' => e = .returned (.tuple #[.int .u64 (((hi * 18446744073709551616 + lo) / y : Nat) : Int), .int .u64 (((hi * 18446744073709551616 + lo) % y : Nat) : Int)]) ∧ ∃ n, w' = w.drewN n := by
  have t1 : ((y : Int) == 0) = false := by simp; omega
  have t2 : decide ((y : Int) ≤ hi) = false := by simp; omega
  have t3 : ((hi : Int) == 0) = false := by simp; omega
  obtain ⟨s, hs, hbl, hY0, hY1⟩ := lz_bounds y (by omega) hy'
  have HLZ := Lib.hid (show ∀ W, Calls Tryz.prog 98 #[.int .u64 y] W fun e w' => e = .returned (.int .i64 (s : Int)) ∧ W = w' from fun W => (Tryz.bits_LeadingZeros64 y W (by omega) (by omega)).mono fun e w' ⟨he, hw⟩ => ⟨by rw [he]; simp; omega, hw.symm⟩)
  obtain ⟨Y, H, L1, U, N0, y1, y0, u1, u0, hYe, f1, f2, f3, f4, f5, f6, f7, f8, f9, hYW, hY, hy0, hy1, hy1', hu1, hu0, hUY, hN⟩ := div64_nums hi lo y s hs h1 hy hY0 hY1
  have HYE := Lib.hid hYe
  have HY := Lib.hid hY
  have HN := Lib.hid hN
  have hYp : 0 < Y := by omega
  have HF := Lib.hid (two_digits (u := U) (a := u1) (b := u0) (B := 4294967296) hYp)
  clear hYe hY hN hbl hY0 hY1
  have k1 : ((y1 : Int) == 0) = false := by simp; omega
  obtain ⟨Q0, hQ0⟩ : ∃ q, q = U / y1 := ⟨_, rfl⟩
  have g1T : (U : Int) / (y1 : Int) = (Q0 : Int) := by rw [hQ0]; simp
  have hQ0b : Q0 ≤ 4294967297 := by rw [hQ0]; exact kn_bound (B := 4294967296) (by omega) hy0 (by have := HY.out; omega)
  obtain ⟨P0, hP0⟩ : ∃ p, p = Q0 * y1 := ⟨_, rfl⟩
  have g2T : (Q0 : Int) * (y1 : Int) = (P0 : Int) := by rw [hP0]; simp
  have hP0U : P0 ≤ U := by rw [hP0, hQ0]; exact Nat.div_mul_le_self _ _
  have hP0R : U < P0 + y1 := by
    rw [hP0, hQ0, Nat.mul_comm]
    have := Nat.lt_mul_div_succ U (show 0 < y1 by omega)
    rw [Nat.mul_add] at this; omega
  have HP0 := Lib.hid hP0
  obtain ⟨T, hT⟩ : ∃ z, z = (U * 4294967296 + u1) / Y := ⟨_, rfl⟩
  have HT := Lib.hid hT
  have hTB : T < 4294967296 := by rw [hT]; exact digit_lt hUY hu1
  have hTQ : T ≤ Q0 := by rw [hT, hQ0, HY.out]; exact kn_first (by omega) hu1
  clear hQ0 hP0 hT
  obtain ⟨V, hV⟩ : ∃ z, z = (U * 4294967296 + u1) % Y := ⟨_, rfl⟩
  have hVY : V < Y := by rw [hV]; exact Nat.mod_lt _ hYp
  have HV := Lib.hid hV
  have f10 : IntKind.u64.wrap (IntKind.u64.wrap (IntKind.u64.wrap ((U : Int) * 4294967296) + (u1 : Int)) - IntKind.u64.wrap ((T : Int) * (Y : Int))) = (V : Int) := by
    have e := Nat.div_add_mod (U * 4294967296 + u1) Y
    rw [← hV, ← HT.out, Nat.mul_comm] at e
    simp only [IntKind.wrap_u64]
    rw [show (T : Int) * (Y : Int) = ((T * Y : Nat) : Int) by simp]
    omega
  clear hV
  obtain ⟨Q2, hQ2⟩ : ∃ q, q = V / y1 := ⟨_, rfl⟩
  have g1T2 : (V : Int) / (y1 : Int) = (Q2 : Int) := by rw [hQ2]; simp
  have hQ2b : Q2 ≤ 4294967297 := by rw [hQ2]; exact kn_bound (B := 4294967296) (by omega) hy0 (by have := HY.out; omega)
  obtain ⟨P2, hP2⟩ : ∃ p, p = Q2 * y1 := ⟨_, rfl⟩
  have g2T2 : (Q2 : Int) * (y1 : Int) = (P2 : Int) := by rw [hP2]; simp
  have hP2U : P2 ≤ V := by rw [hP2, hQ2]; exact Nat.div_mul_le_self _ _
  have hP2R : V < P2 + y1 := by
    rw [hP2, hQ2, Nat.mul_comm]
    have := Nat.lt_mul_div_succ V (show 0 < y1 by omega)
    rw [Nat.mul_add] at this; omega
  have HP2 := Lib.hid hP2
  obtain ⟨T2, hT2⟩ : ∃ z, z = (V * 4294967296 + u0) / Y := ⟨_, rfl⟩
  have HT2 := Lib.hid hT2
  have hT2B : T2 < 4294967296 := by rw [hT2]; exact digit_lt hVY hu0
  have hT2Q : T2 ≤ Q2 := by rw [hT2, hQ2, HY.out]; exact kn_first (by omega) hu0
  clear hQ2 hP2 hT2
  obtain ⟨R2, hR2⟩ : ∃ z, z = (V * 4294967296 + u0) % Y := ⟨_, rfl⟩
  have hR2Y : R2 < Y := by rw [hR2]; exact Nat.mod_lt _ hYp
  have f11 : IntKind.u64.wrap (IntKind.u64.wrap (IntKind.u64.wrap ((V : Int) * 4294967296) + (u0 : Int)) - IntKind.u64.wrap ((T2 : Int) * (Y : Int))) = (R2 : Int) := by
    have e := Nat.div_add_mod (V * 4294967296 + u0) Y
    rw [← hR2, ← HT2.out, Nat.mul_comm] at e
    simp only [IntKind.wrap_u64]
    rw [show (T2 : Int) * (Y : Int) = ((T2 * Y : Nat) : Int) by simp]
    omega
  have hp : 0 < 2 ^ s := Nat.pow_pos (by omega)
  have HRES := Lib.hid (show (T * 4294967296 + T2 = (hi * 18446744073709551616 + lo) / y) ∧ (R2 : Int) / 2 ^ s = (((hi * 18446744073709551616 + lo) % y : Nat) : Int) from by
    have a := HF.out
    rw [← HT.out, ← HV.out, ← HT2.out, ← hR2, HN.out, HYE.out, (shifted hp).1, (shifted hp).2] at a
    refine ⟨a.1.symm, ?_⟩
    rw [← a.2]
    have : (2 : Int) ^ s = ((2 ^ s : Nat) : Int) := by simp
    rw [this, ← Int.natCast_ediv, Nat.mul_div_cancel _ hp])
  clear hR2 hp
  go_enter Tryz.func132, Tryz.ntmps132
  go_wp2_with fail
  refine (HLZ.out _).mono ?_
  rintro e w' ⟨rfl, rfl⟩
  go_upto_block 0 with fail
  go_cut [15, 16] from 67 (fun q _ wx => q = .int .u64 (T : Int) ∧ wx = w)
  case first =>
    go_wp2_with fail
    go_loop [15, 16] (fun q r => ∃ Q R : Nat, q = .int .u64 Q ∧ r = .int .u64 R ∧ Q * y1 + R = U ∧ R < 4294967296 ∧ T ≤ Q ∧ Q ≤ 4294967297) (fun q _ => (intOf q).toNat)
    case atStart => exact ⟨Q0, U - P0, rfl, by go_num, by rw [← HP0.out]; omega, by omega, hTQ, hQ0b⟩
    case round =>
      obtain ⟨Q, R, rfl, rfl, hQR, hR, hTQ', hQ⟩ := hrel
      have HQR := Lib.hid hQR
      obtain ⟨P, hP⟩ : ∃ P, P = Q * y0 := ⟨_, rfl⟩
      have eP : (Q : Int) * (y0 : Int) = (P : Int) := by rw [hP]; simp
      have hPW : P < 18446744073709551616 := by
        rw [hP]
        have := Nat.mul_le_mul hQ (show y0 ≤ 4294967295 by omega)
        omega
      have HP := Lib.hid hP
      clear hQR hP
      by_cases ht : 4294967296 ≤ Q ∨ 4294967296 * R + u1 < P
      · have hTl : T < Q := by
          rcases ht with h | h
          · omega
          · rw [HT.out]
            refine kn_less hYp ?_
            rw [HY.out]
            exact kn_gt HQR.out (by rw [← HP.out]; exact h)
        have HQR' := Lib.hid (show (Q - 1) * y1 + (R + y1) = U by
          have := HQR.out
          have e : Q * y1 = (Q - 1) * y1 + y1 := by
            conv => lhs; rw [show Q = (Q - 1) + 1 by omega, Nat.add_mul, Nat.one_mul]
          omega)
        by_cases hbk : 4294967296 ≤ R + y1
        · have HE := Lib.hid (show Q - 1 = T by
            rw [HT.out]
            refine kn_is hYp ?_ (by rw [← HT.out]; omega)
            rw [HY.out]
            exact kn_break (r := R + y1) HQR'.out hbk (by omega) hy0)
          have b2 : decide (4294967296 ≤ (R : Int) + y1) = true := by simp; omega
          clear hbk
          by_cases ht1 : 4294967296 ≤ Q
          · have b1 : decide (4294967296 ≤ (Q : Int)) = true := by simp; omega
            clear ht ht1
            go_wp2
            go_meet
            case rel => exact ⟨by have := HE.out; go_num, rfl⟩
          · have b1 : decide (4294967296 ≤ (Q : Int)) = false := by simp; omega
            have b3 : decide (4294967296 * (R : Int) + u1 < P) = true := by simp; omega
            clear ht
            go_wp2
            go_meet
            case rel => exact ⟨by have := HE.out; go_num, rfl⟩
        · have b2 : decide (4294967296 ≤ (R : Int) + y1) = false := by simp; omega
          have HBK := Lib.hid (show R + y1 < 4294967296 by omega)
          clear hbk
          by_cases ht1 : 4294967296 ≤ Q
          · have b1 : decide (4294967296 ≤ (Q : Int)) = true := by simp; omega
            clear ht ht1
            go_wp2
            go_round
            case rel => exact ⟨Q - 1, R + y1, by go_num, by go_num, HQR'.out, HBK.out, by omega, by omega⟩
            case measure => simp [intOf]; omega
          · have b1 : decide (4294967296 ≤ (Q : Int)) = false := by simp; omega
            have b3 : decide (4294967296 * (R : Int) + u1 < P) = true := by simp; omega
            clear ht
            go_wp2
            go_round
            case rel => exact ⟨Q - 1, R + y1, by go_num, by go_num, HQR'.out, HBK.out, by omega, by omega⟩
            case measure => simp [intOf]; omega
      · have HE := Lib.hid (show Q = T by
          rw [HT.out]
          refine kn_is hYp ?_ (by rw [← HT.out]; omega)
          rw [HY.out]
          exact kn_le HQR.out (by rw [← HP.out]; omega))
        have b1 : decide (4294967296 ≤ (Q : Int)) = false := by simp; omega
        have b3 : decide (4294967296 * (R : Int) + u1 < P) = false := by simp; omega
        clear ht
        go_wp2
        go_meet
        case rel => exact ⟨by have := HE.out; go_num, rfl⟩
  case rest =>
    obtain ⟨rfl, rfl⟩ := hcut
    go_upto_block 2 with fail
    go_cut [18, 16] from 102 (fun q _ wx => q = .int .u64 (T2 : Int) ∧ wx = wc)
    case first =>
      go_wp2_with fail
      go_loop [18, 16] (fun q r => ∃ Q R : Nat, q = .int .u64 Q ∧ r = .int .u64 R ∧ Q * y1 + R = V ∧ R < 4294967296 ∧ T2 ≤ Q ∧ Q ≤ 4294967297) (fun q _ => (intOf q).toNat)
      case atStart => exact ⟨Q2, V - P2, rfl, by go_num, by rw [← HP2.out]; omega, by omega, hT2Q, hQ2b⟩
      case round =>
        obtain ⟨Q, R, rfl, rfl, hQR, hR, hTQ', hQ⟩ := hrel
        have HQR := Lib.hid hQR
        obtain ⟨P, hP⟩ : ∃ P, P = Q * y0 := ⟨_, rfl⟩
        have eP : (Q : Int) * (y0 : Int) = (P : Int) := by rw [hP]; simp
        have hPW : P < 18446744073709551616 := by
          rw [hP]
          have := Nat.mul_le_mul hQ (show y0 ≤ 4294967295 by omega)
          omega
        have HP := Lib.hid hP
        clear hQR hP
        by_cases ht : 4294967296 ≤ Q ∨ 4294967296 * R + u0 < P
        · have hTl : T2 < Q := by
            rcases ht with h | h
            · omega
            · rw [HT2.out]
              refine kn_less hYp ?_
              rw [HY.out]
              exact kn_gt HQR.out (by rw [← HP.out]; exact h)
          have HQR' := Lib.hid (show (Q - 1) * y1 + (R + y1) = V by
            have := HQR.out
            have e : Q * y1 = (Q - 1) * y1 + y1 := by
              conv => lhs; rw [show Q = (Q - 1) + 1 by omega, Nat.add_mul, Nat.one_mul]
            omega)
          by_cases hbk : 4294967296 ≤ R + y1
          · have HE := Lib.hid (show Q - 1 = T2 by
              rw [HT2.out]
              refine kn_is hYp ?_ (by rw [← HT2.out]; omega)
              rw [HY.out]
              exact kn_break (r := R + y1) HQR'.out hbk (by omega) hy0)
            have b2 : decide (4294967296 ≤ (R : Int) + y1) = true := by simp; omega
            clear hbk
            by_cases ht1 : 4294967296 ≤ Q
            · have b1 : decide (4294967296 ≤ (Q : Int)) = true := by simp; omega
              clear ht ht1
              go_wp2
              go_meet
              case rel => exact ⟨by have := HE.out; go_num, rfl⟩
            · have b1 : decide (4294967296 ≤ (Q : Int)) = false := by simp; omega
              have b3 : decide (4294967296 * (R : Int) + u0 < P) = true := by simp; omega
              clear ht
              go_wp2
              go_meet
              case rel => exact ⟨by have := HE.out; go_num, rfl⟩
          · have b2 : decide (4294967296 ≤ (R : Int) + y1) = false := by simp; omega
            have HBK := Lib.hid (show R + y1 < 4294967296 by omega)
            clear hbk
            by_cases ht1 : 4294967296 ≤ Q
            · have b1 : decide (4294967296 ≤ (Q : Int)) = true := by simp; omega
              clear ht ht1
              go_wp2
              go_round
              case rel => exact ⟨Q - 1, R + y1, by go_num, by go_num, HQR'.out, HBK.out, by omega, by omega⟩
              case measure => simp [intOf]; omega
            · have b1 : decide (4294967296 ≤ (Q : Int)) = false := by simp; omega
              have b3 : decide (4294967296 * (R : Int) + u0 < P) = true := by simp; omega
              clear ht
              go_wp2
              go_round
              case rel => exact ⟨Q - 1, R + y1, by go_num, by go_num, HQR'.out, HBK.out, by omega, by omega⟩
              case measure => simp [intOf]; omega
        · have HE := Lib.hid (show Q = T2 by
            rw [HT2.out]
            refine kn_is hYp ?_ (by rw [← HT2.out]; omega)
            rw [HY.out]
            exact kn_le HQR.out (by rw [← HP.out]; omega))
          have b1 : decide (4294967296 ≤ (Q : Int)) = false := by simp; omega
          have b3 : decide (4294967296 * (R : Int) + u0 < P) = false := by simp; omega
          clear ht
          go_wp2
          go_meet
          case rel => exact ⟨by have := HE.out; go_num, rfl⟩
    case rest =>
      obtain ⟨rfl, rfl⟩ := hcut
      go_wp2
      go_ret2
      refine ⟨?_, 0, rfl⟩
      have a := HRES.out
      show Ending.returned (.tuple #[.int .u64 ((T : Int) * 4294967296 + (T2 : Int)), .int .u64 ((R2 : Int) / 2 ^ s)]) = _
      rw [← a.1, a.2]
      simp

theorem div64_any (hi lo y : Nat) (w : World) (h1 : lo < 18446744073709551616) (hy : hi < y) (hy' : y < 18446744073709551616) :
    Calls Tryz.prog 132 #[.int .u64 hi, .int .u64 lo, .int .u64 y] w fun e w' => e = .returned (.tuple #[.int .u64 (((hi * 18446744073709551616 + lo) / y : Nat) : Int), .int .u64 (((hi * 18446744073709551616 + lo) % y : Nat) : Int)]) ∧ ∃ n, w' = w.drewN n := by
  rcases Nat.eq_zero_or_pos hi with rfl | h
  · rw [Nat.zero_mul, Nat.zero_add]
    exact div64_zero lo y w h1 hy hy'
  · exact div64_pos hi lo y w h h1 hy hy'
end Go.Proofs.YtlkjgjojahjapaaGreatDoor

/- Package nat: Add. -/
namespace Go.Proofs.YtlkjgjojahjapaaGreatDoor
open Go Go.RowKit Go.Proofs

theorem add64_eq (x y c : Nat) (hx : x < 18446744073709551616) (hy : y < 18446744073709551616) (hc : c ≤ 1) (w : World) :
    (callFunc 105 #[.int .u64 x, .int .u64 y, .int .u64 c]).run Tryz.prog w =
      .ok (.value (.tuple #[.int .u64 (((x + y + c) % 18446744073709551616 : Nat) : Int), .int .u64 (((x + y + c) / 18446744073709551616 : Nat) : Int)])) w := by
  rw [run_callFunc_extern Tryz.func105 (by kernel_rfl) (by kernel_rfl) (by kernel_rfl) (e := add64Entry) (by kernel_rfl), run_add64 x y c (by omega) (by omega) (by omega) (by omega)]
  simp only [Result.andThen]
  congr 5 <;> omega
theorem Tryz.infoU : (Tryz.prog.info? 146).map (fun i => (i.zero, i.size, i.bytes)) = some (some (.int .u64 0), 1, 8) := by kernel_rfl
/-- block g holds these words -/
def Blk (w : World) (g : Nat) (o : List Nat) : Prop := w.heap[g]? = some (.cells (u64s o).toArray 146 (0, 0))
theorem Blk.cell {w : World} {g : Nat} {o : List Nat} (h : Blk w g o) {i d : Nat} (hi : o[i]? = some d) : w.cell? ⟨g, i, none⟩ = some (.int .u64 d) := by
  rw [cellsAt h]; simp [u64s, hi]
theorem Blk.frozen {w : World} {g : Nat} {o : List Nat} (h : Blk w g o) (i : Nat) : w.frozen? ⟨g, i, none⟩ = false := frozenAt h i
theorem Blk.set {w : World} {g : Nat} {o : List Nat} (h : Blk w g o) (i d : Nat) : Blk (w.setCell ⟨g, i, none⟩ (.int .u64 d)) g (o.set i d) := by
  unfold Blk at *
  simp only [World.setCell, Array.getElem?_modify, h, if_true, Option.map_some]
  congr 2
  rw [List.setIfInBounds_toArray]
  simp [u64s, List.map_set]
theorem Blk.of_own {w : World} {base g n : Nat} {o : List Nat} (h : w.ownsRow base 146 1 (.slice (some ⟨g, 0, none⟩) n n) n (u64s o)) : Blk w g o ∧ o.length = n := by
  have hl : o.length = n := by have := h.1; simpa [u64s] using this
  rcases h.2 with ⟨hv, _⟩ | ⟨g', cap, cur, hv, hb, hh, h1, h2, h3, h4⟩
  · cases hv
  · simp only [Value.slice.injEq, Option.some.injEq, Addr.mk.injEq] at hv
    obtain ⟨⟨rfl, _⟩, _, rfl⟩ := hv
    refine ⟨?_, hl⟩
    unfold Blk
    rw [hh]
    have e : cur = (u64s o).toArray := by
      apply Array.toList_inj.1
      rw [← h4, List.take_of_length_le (by simp; omega)]
    rw [e]
theorem Blk.rd {w : World} {g : Nat} {o : List Nat} (h : Blk w g o) : Rd w 0 w.heap.size 1 (some ⟨g, 0, none⟩) o.length (u64s o) :=
  ⟨by simp [u64s], fun _ => ⟨g, 0, rfl, Nat.zero_le _, heap_lt h, fun j u hj => by rw [cellsAt h, Nat.zero_add]; simpa using hj⟩⟩
theorem made_zeros (n : Nat) : (madeCells #[Value.int .u64 0] n).toList = u64s (List.replicate n 0) := by
  apply List.ext_getElem
  · simp [madeCells, u64s]
  · intro i h1 h2
    simp [madeCells, u64s, Nat.mod_one]
theorem take_set_succ {o : List Nat} {k d : Nat} (h : k < o.length) : (o.set k d).take (k + 1) = o.take k ++ [d] := by
  rw [List.take_succ_eq_append_getElem (by simpa using h), List.take_set, List.set_eq_of_length_le (by simp; omega)]
  simp
theorem take_snoc' {l : List Nat} {k d : Nat} (h : l[k]? = some d) : l.take (k + 1) = l.take k ++ [d] := by rw [List.take_add_one, h]; rfl
theorem mem_set {o : List Nat} {k d : Nat} (ho : ∀ x ∈ o, x < W64) (hd : d < W64) : ∀ x ∈ o.set k d, x < W64 := by
  intro x hx
  rcases List.mem_or_eq_of_mem_set hx with h | h
  · exact ho x h
  · rw [h]; exact hd
def AddRel (w wr : World) (g : Nat) (la lb : List Nat) (k c : Nat) : Prop :=
  ∃ o, o.length = la.length + 1 ∧ (∀ d ∈ o, d < W64) ∧ Blk wr g o ∧ val W64 (o.take k) + W64 ^ k * c = val W64 (la.take k) + val W64 (lb.take k) ∧ Below w.heap.size w wr

set_option maxHeartbeats 2000000 in
set_option maxRecDepth 100000 in
theorem natAdd_a (A1 A2 : Option Addr) (c1 c2 : Nat) (l1 l2 : List Nat) (x y : Nat) (w : World) (h1 : NatR w A1 c1 l1 x) (h2 : NatR w A2 c2 l2 y) (hs : l1.length ≤ 1000000) (_hs2 : l2.length ≤ 1000000) (hle : l2.length ≤ l1.length) :
    Calls Tryz.prog 45 #[.slice A1 l1.length c1, .slice A2 l2.length c2] w (NatNew (x + y) w) := by
  obtain ⟨i0, hi0, hz0, hz1, hz2⟩ := info_parts Tryz.infoU
  have HN1 := Lib.hid h1
  have HN2 := Lib.hid h2
  have t0 : decide (l1.length < l2.length) = false := by simp; omega
  clear h1 h2
  go_enter Tryz.func45, Tryz.ntmps45
  go_wp2_with (at_make; refine wpList_make_full _ rfl (.tmp 18) (.tmp 18) 69 rfl w.heap.size 146 i0 _ 1 Tryz.underlying69 hi0 hz0 hz1 .i64 .i64 _ _ (l1.length + 1) rfl rfl ?m1 ?m2 ?m3 ?m4 ?m5 ?_)
  case m1 => omega
  case m2 => omega
  case m3 => rw [hz2]; omega
  case m4 => unfold maxLen; omega
  case m5 => exact Nat.le_refl _
  intro w1 hown hgr
  rw [made_zeros] at hown
  obtain ⟨hblk, _⟩ := Blk.of_own hown
  have hb1 : Below w.heap.size w w1 := (Below.refl _ w).grown hgr (Nat.le_refl _) (fun k hk => by cases hk)
  have hsz1 : w.heap.size < w1.heap.size := heap_lt hblk
  have HBK := Lib.hid hblk
  have HB1 := Lib.hid hb1
  clear hown hgr hblk hb1
  go_wp2
  go_loopw [6, 7, 8, 22] (fun cy _ _ i wr => ∃ (k c : Nat), i = .int .i64 k ∧ cy = .int .u64 c ∧ k ≤ l1.length ∧ c ≤ 1 ∧ AddRel w wr w.heap.size l1 l2 k c) (fun _ _ _ i _ => l1.length - (intOf i).toNat)
  case atStart => exact ⟨0, 0, rfl, rfl, Nat.zero_le _, by omega, List.replicate (l1.length + 1) 0, by simp, fun d hd => by rw [List.eq_of_mem_replicate hd]; unfold W64; omega, HBK.out, by simp [val], HB1.out⟩
  case round =>
    obtain ⟨k, c, rfl, rfl, hk, hc, o, hol, hod, hblk, hval, hbw⟩ := hrel
    have hgl := heap_lt hblk
    have HO := Lib.hid hod
    have HOL := Lib.hid hol
    have HV := Lib.hid hval
    have HBW := Lib.hid hbw
    have HBL := Lib.hid hblk
    clear hod hol hval
    by_cases hlt : k < l1.length
    · obtain ⟨ba, oa, ua, rfl, hba, hua, qa⟩ := (HN1.out.rd.below hbw (Nat.le_refl _)).at1 hlt
      obtain ⟨da, hda, rfl⟩ := u64s_get hua
      have hdaW : da < 18446744073709551616 := HN1.out.norm.1 da (List.mem_of_getElem? hda)
      have HDA := Lib.hid hda
      have hko : k < o.length := by have := HOL.out; omega
      obtain ⟨od, hod⟩ : ∃ od, o[k]? = some od := ⟨o[k], List.getElem?_eq_getElem hko⟩
      have q0 := hblk.cell hod
      have z0 := hblk.frozen k
      clear hua hda hod hblk hbw
      have hki : (k : Int) < (l1.length : Int) + 1 := by omega
      have step : ∀ yb : Nat, yb < 18446744073709551616 → l2.take (k + 1) = l2.take k ++ (if k < l2.length then [yb] else []) → (k < l2.length ∨ yb = 0) → AddRel w (wr.setCell ⟨w.heap.size, k, none⟩ (.int .u64 (((da + yb + c) % 18446744073709551616 : Nat) : Int))) w.heap.size l1 l2 (k + 1) ((da + yb + c) / 18446744073709551616) := by
        intro yb hyb htk hor
        refine ⟨o.set k ((da + yb + c) % 18446744073709551616), by simp [HOL.out], mem_set HO.out (by unfold W64; omega), HBL.out.set k _, ?_, HBW.out.setCell (Nat.le_refl _) _⟩
        rw [take_set_succ hko, take_snoc' HDA.out, val_snoc, val_snoc, htk]
        have e1 : (o.take k).length = k := by simp; omega
        have e2 : (l1.take k).length = k := by simp; omega
        rw [e1, e2]
        have hv := HV.out
        have e3 : (da + yb + c) % 18446744073709551616 + W64 * ((da + yb + c) / 18446744073709551616) = da + yb + c := by unfold W64; omega
        have e4 : W64 ^ k * ((da + yb + c) % 18446744073709551616) + W64 ^ (k + 1) * ((da + yb + c) / 18446744073709551616) = W64 ^ k * (da + yb + c) := by
          rw [Nat.pow_succ, Nat.mul_assoc, ← Nat.mul_add, e3]
        have e5 : val W64 (l2.take k ++ (if k < l2.length then [yb] else [])) = val W64 (l2.take k) + W64 ^ k * yb := by
          rcases Nat.lt_or_ge k l2.length with h | h
          · rw [if_pos h, val_snoc]
            have : (l2.take k).length = k := by simp; omega
            rw [this]
          · rw [if_neg (by omega), List.append_nil]
            have : yb = 0 := by omega
            rw [this]; simp
        rw [e5]
        rw [Nat.mul_add, Nat.mul_add] at e4
        omega
      have STEP := Lib.hid step
      clear step
      by_cases hlb : k < l2.length
      · have t1 : decide (k < l2.length) = true := by simpa using hlb
        obtain ⟨bb, ob, ub, rfl, hbb, hub, qb⟩ := (HN2.out.rd.below HBW.out (Nat.le_refl _)).at1 hlb
        obtain ⟨db, hdb, rfl⟩ := u64s_get hub
        have hdbW : db < 18446744073709551616 := HN2.out.norm.1 db (List.mem_of_getElem? hdb)
        have HS := Lib.hid (STEP.out db hdbW (by rw [take_snoc' hdb, if_pos hlb]) (.inl hlb))
        have hadd := fun W => add64_eq da db c hdaW hdbW hc W
        have hc2 : (da + db + c) / 18446744073709551616 ≤ 1 := by omega
        clear hub hdb
        go_wp2
        go_roundw
        case rel => exact ⟨k + 1, _, by go_num, rfl, by omega, hc2, HS.out⟩
        case measure => simp [intOf]; omega
      · have t1 : decide (k < l2.length) = false := by simpa using hlb
        have HS := Lib.hid (STEP.out 0 (by omega) (by rw [if_neg hlb, List.append_nil, List.take_of_length_le (by omega), List.take_of_length_le (by omega)]) (.inr rfl))
        have hadd : ∀ W, (callFunc 105 #[.int .u64 da, .int .u64 0, .int .u64 c]).run Tryz.prog W = .ok (.value (.tuple #[.int .u64 (((da + 0 + c) % 18446744073709551616 : Nat) : Int), .int .u64 (((da + 0 + c) / 18446744073709551616 : Nat) : Int)])) W := fun W => add64_eq da 0 c hdaW (by omega) hc W
        have hc2 : (da + 0 + c) / 18446744073709551616 ≤ 1 := by omega
        go_wp2
        go_roundw
        case rel => exact ⟨k + 1, _, by go_num, rfl, by omega, hc2, HS.out⟩
        case measure => simp [intOf]; omega
    · obtain rfl : k = l1.length := by omega
      have hko : l1.length < o.length := by have := HOL.out; omega
      obtain ⟨od, hod⟩ : ∃ od, o[l1.length]? = some od := ⟨o[l1.length], List.getElem?_eq_getElem hko⟩
      have q0 := hblk.cell hod
      have z0 := hblk.frozen l1.length
      have hset := HBL.out.set l1.length c
      have hl' : (o.set l1.length c).length = l1.length + 1 := by simp [HOL.out]
      have hd' := mem_set (k := l1.length) (d := c) HO.out (by unfold W64; omega)
      have hrd := hset.rd
      have HCUT := Lib.hid (cut_any (some ⟨w.heap.size, 0, none⟩) (l1.length + 1) (o.set l1.length c) _ hrd (by omega) (by unfold maxLen; omega) (fun h => by cases h))
      have hnr := natr_cut (c := l1.length + 1) hrd hd' (by omega) (by unfold maxLen; omega) (fun h => by cases h)
      have hval : val W64 (o.set l1.length c) = x + y := by
        have e1 := take_set_succ (d := c) hko
        rw [List.take_of_length_le (by rw [hl']; exact Nat.le_refl _)] at e1
        rw [e1, val_snoc]
        have e2 : (o.take l1.length).length = l1.length := by simp; omega
        rw [e2, HV.out, List.take_length, List.take_of_length_le (by omega)]
        have := HN1.out.val
        have := HN2.out.val
        omega
      rw [hval] at hnr
      rw [hl'] at HCUT
      have HNR := Lib.hid hnr
      have HBE := Lib.hid (HBW.out.setCell (p := ⟨w.heap.size, l1.length, none⟩) (Nat.le_refl _) (.int .u64 c))
      clear hod hblk hbw hset hl' hd' hrd hnr hval
      go_wp2_with fail
      refine HCUT.out.mono ?_
      rintro e w' ⟨rfl, rfl⟩
      go_wp2
      go_ret
      exact ⟨_, _, _, rfl, HNR.out, HBE.out, fun b o h => by cases h; exact Nat.le_refl _⟩

set_option maxHeartbeats 2000000 in
set_option maxRecDepth 100000 in
theorem natAdd_b (A1 A2 : Option Addr) (c1 c2 : Nat) (l1 l2 : List Nat) (x y : Nat) (w : World) (h1 : NatR w A1 c1 l1 x) (h2 : NatR w A2 c2 l2 y) (hs : l1.length ≤ 1000000) (hs2 : l2.length ≤ 1000000) (hle : l1.length < l2.length) :
    Calls Tryz.prog 45 #[.slice A1 l1.length c1, .slice A2 l2.length c2] w (NatNew (x + y) w) := by
  obtain ⟨i0, hi0, hz0, hz1, hz2⟩ := info_parts Tryz.infoU
  have HN1 := Lib.hid h1
  have HN2 := Lib.hid h2
  have t0 : decide (l1.length < l2.length) = true := by simp; omega
  clear h1 h2
  go_enter Tryz.func45, Tryz.ntmps45
  go_wp2_with (at_make; refine wpList_make_full _ rfl (.tmp 18) (.tmp 18) 69 rfl w.heap.size 146 i0 _ 1 Tryz.underlying69 hi0 hz0 hz1 .i64 .i64 _ _ (l2.length + 1) rfl rfl ?m1 ?m2 ?m3 ?m4 ?m5 ?_)
  case m1 => omega
  case m2 => omega
  case m3 => rw [hz2]; omega
  case m4 => unfold maxLen; omega
  case m5 => exact Nat.le_refl _
  intro w1 hown hgr
  rw [made_zeros] at hown
  obtain ⟨hblk, _⟩ := Blk.of_own hown
  have hb1 : Below w.heap.size w w1 := (Below.refl _ w).grown hgr (Nat.le_refl _) (fun k hk => by cases hk)
  have hsz1 : w.heap.size < w1.heap.size := heap_lt hblk
  have HBK := Lib.hid hblk
  have HB1 := Lib.hid hb1
  clear hown hgr hblk hb1
  go_wp2
  go_loopw [6, 7, 8, 22] (fun cy _ _ i wr => ∃ (k c : Nat), i = .int .i64 k ∧ cy = .int .u64 c ∧ k ≤ l2.length ∧ c ≤ 1 ∧ AddRel w wr w.heap.size l2 l1 k c) (fun _ _ _ i _ => l2.length - (intOf i).toNat)
  case atStart => exact ⟨0, 0, rfl, rfl, Nat.zero_le _, by omega, List.replicate (l2.length + 1) 0, by simp, fun d hd => by rw [List.eq_of_mem_replicate hd]; unfold W64; omega, HBK.out, by simp [val], HB1.out⟩
  case round =>
    obtain ⟨k, c, rfl, rfl, hk, hc, o, hol, hod, hblk, hval, hbw⟩ := hrel
    have hgl := heap_lt hblk
    have HO := Lib.hid hod
    have HOL := Lib.hid hol
    have HV := Lib.hid hval
    have HBW := Lib.hid hbw
    have HBL := Lib.hid hblk
    clear hod hol hval
    by_cases hlt : k < l2.length
    · obtain ⟨ba, oa, ua, rfl, hba, hua, qa⟩ := (HN2.out.rd.below hbw (Nat.le_refl _)).at1 hlt
      obtain ⟨da, hda, rfl⟩ := u64s_get hua
      have hdaW : da < 18446744073709551616 := HN2.out.norm.1 da (List.mem_of_getElem? hda)
      have HDA := Lib.hid hda
      have hko : k < o.length := by have := HOL.out; omega
      obtain ⟨od, hod⟩ : ∃ od, o[k]? = some od := ⟨o[k], List.getElem?_eq_getElem hko⟩
      have q0 := hblk.cell hod
      have z0 := hblk.frozen k
      clear hua hda hod hblk hbw
      have hki : (k : Int) < (l2.length : Int) + 1 := by omega
      have step : ∀ yb : Nat, yb < 18446744073709551616 → l1.take (k + 1) = l1.take k ++ (if k < l1.length then [yb] else []) → (k < l1.length ∨ yb = 0) → AddRel w (wr.setCell ⟨w.heap.size, k, none⟩ (.int .u64 (((da + yb + c) % 18446744073709551616 : Nat) : Int))) w.heap.size l2 l1 (k + 1) ((da + yb + c) / 18446744073709551616) := by
        intro yb hyb htk hor
        refine ⟨o.set k ((da + yb + c) % 18446744073709551616), by simp [HOL.out], mem_set HO.out (by unfold W64; omega), HBL.out.set k _, ?_, HBW.out.setCell (Nat.le_refl _) _⟩
        rw [take_set_succ hko, take_snoc' HDA.out, val_snoc, val_snoc, htk]
        have e1 : (o.take k).length = k := by simp; omega
        have e2 : (l2.take k).length = k := by simp; omega
        rw [e1, e2]
        have hv := HV.out
        have e3 : (da + yb + c) % 18446744073709551616 + W64 * ((da + yb + c) / 18446744073709551616) = da + yb + c := by unfold W64; omega
        have e4 : W64 ^ k * ((da + yb + c) % 18446744073709551616) + W64 ^ (k + 1) * ((da + yb + c) / 18446744073709551616) = W64 ^ k * (da + yb + c) := by
          rw [Nat.pow_succ, Nat.mul_assoc, ← Nat.mul_add, e3]
        have e5 : val W64 (l1.take k ++ (if k < l1.length then [yb] else [])) = val W64 (l1.take k) + W64 ^ k * yb := by
          rcases Nat.lt_or_ge k l1.length with h | h
          · rw [if_pos h, val_snoc]
            have : (l1.take k).length = k := by simp; omega
            rw [this]
          · rw [if_neg (by omega), List.append_nil]
            have : yb = 0 := by omega
            rw [this]; simp
        rw [e5]
        rw [Nat.mul_add, Nat.mul_add] at e4
        omega
      have STEP := Lib.hid step
      clear step
      by_cases hlb : k < l1.length
      · have t1 : decide (k < l1.length) = true := by simpa using hlb
        obtain ⟨bb, ob, ub, rfl, hbb, hub, qb⟩ := (HN1.out.rd.below HBW.out (Nat.le_refl _)).at1 hlb
        obtain ⟨db, hdb, rfl⟩ := u64s_get hub
        have hdbW : db < 18446744073709551616 := HN1.out.norm.1 db (List.mem_of_getElem? hdb)
        have HS := Lib.hid (STEP.out db hdbW (by rw [take_snoc' hdb, if_pos hlb]) (.inl hlb))
        have hadd := fun W => add64_eq da db c hdaW hdbW hc W
        have hc2 : (da + db + c) / 18446744073709551616 ≤ 1 := by omega
        clear hub hdb
        go_wp2
        go_roundw
        case rel => exact ⟨k + 1, _, by go_num, rfl, by omega, hc2, HS.out⟩
        case measure => simp [intOf]; omega
      · have t1 : decide (k < l1.length) = false := by simpa using hlb
        have HS := Lib.hid (STEP.out 0 (by omega) (by rw [if_neg hlb, List.append_nil, List.take_of_length_le (by omega), List.take_of_length_le (by omega)]) (.inr rfl))
        have hadd : ∀ W, (callFunc 105 #[.int .u64 da, .int .u64 0, .int .u64 c]).run Tryz.prog W = .ok (.value (.tuple #[.int .u64 (((da + 0 + c) % 18446744073709551616 : Nat) : Int), .int .u64 (((da + 0 + c) / 18446744073709551616 : Nat) : Int)])) W := fun W => add64_eq da 0 c hdaW (by omega) hc W
        have hc2 : (da + 0 + c) / 18446744073709551616 ≤ 1 := by omega
        go_wp2
        go_roundw
        case rel => exact ⟨k + 1, _, by go_num, rfl, by omega, hc2, HS.out⟩
        case measure => simp [intOf]; omega
    · obtain rfl : k = l2.length := by omega
      have hko : l2.length < o.length := by have := HOL.out; omega
      obtain ⟨od, hod⟩ : ∃ od, o[l2.length]? = some od := ⟨o[l2.length], List.getElem?_eq_getElem hko⟩
      have q0 := hblk.cell hod
      have z0 := hblk.frozen l2.length
      have hset := HBL.out.set l2.length c
      have hl' : (o.set l2.length c).length = l2.length + 1 := by simp [HOL.out]
      have hd' := mem_set (k := l2.length) (d := c) HO.out (by unfold W64; omega)
      have hrd := hset.rd
      have HCUT := Lib.hid (cut_any (some ⟨w.heap.size, 0, none⟩) (l2.length + 1) (o.set l2.length c) _ hrd (by omega) (by unfold maxLen; omega) (fun h => by cases h))
      have hnr := natr_cut (c := l2.length + 1) hrd hd' (by omega) (by unfold maxLen; omega) (fun h => by cases h)
      have hval : val W64 (o.set l2.length c) = x + y := by
        have e1 := take_set_succ (d := c) hko
        rw [List.take_of_length_le (by rw [hl']; exact Nat.le_refl _)] at e1
        rw [e1, val_snoc]
        have e2 : (o.take l2.length).length = l2.length := by simp; omega
        rw [e2, HV.out, List.take_length, List.take_of_length_le (by omega)]
        have := HN2.out.val
        have := HN1.out.val
        omega
      rw [hval] at hnr
      rw [hl'] at HCUT
      have HNR := Lib.hid hnr
      have HBE := Lib.hid (HBW.out.setCell (p := ⟨w.heap.size, l2.length, none⟩) (Nat.le_refl _) (.int .u64 c))
      clear hod hblk hbw hset hl' hd' hrd hnr hval
      go_wp2_with fail
      refine HCUT.out.mono ?_
      rintro e w' ⟨rfl, rfl⟩
      go_wp2
      go_ret
      exact ⟨_, _, _, rfl, HNR.out, HBE.out, fun b o h => by cases h; exact Nat.le_refl _⟩

theorem natAddN_any (A1 A2 : Option Addr) (c1 c2 : Nat) (l1 l2 : List Nat) (x y : Nat) (w : World) (h1 : NatR w A1 c1 l1 x) (h2 : NatR w A2 c2 l2 y) (hs : l1.length ≤ 1000000) (hs2 : l2.length ≤ 1000000) :
    Calls Tryz.prog 45 #[.slice A1 l1.length c1, .slice A2 l2.length c2] w (NatNew (x + y) w) := by
  by_cases hle : l1.length < l2.length
  · exact natAdd_b A1 A2 c1 c2 l1 l2 x y w h1 h2 hs hs2 hle
  · exact natAdd_a A1 A2 c1 c2 l1 l2 x y w h1 h2 hs hs2 (by omega)
theorem natAdd_any (A1 A2 : Option Addr) (c1 c2 : Nat) (l1 l2 : List Nat) (x y : Nat) (w : World) (h1 : NatR w A1 c1 l1 x) (h2 : NatR w A2 c2 l2 y) (hs : l1.length ≤ 1000000) (hs2 : l2.length ≤ 1000000) :
    Calls Tryz.prog 45 #[.slice A1 l1.length c1, .slice A2 l2.length c2] w (NatPost (x + y) w) :=
  (natAddN_any A1 A2 c1 c2 l1 l2 x y w h1 h2 hs hs2).mono fun _ _ h => h.post
end Go.Proofs.YtlkjgjojahjapaaGreatDoor
