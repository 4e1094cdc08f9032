/- math/bits.Div64. -/
import Derived.Test.YtnpfdelklolchaaGreatDoorG3
import Derived.Test.YtnpfdelklolchaaGreatDoorShelf
import Derived.Deep.Cut
import Derived.Deep.CutRange
import Derived.Deep.CutBlock
import Derived.Laws.BitsAllLaws
import Derived.Lib.ItoaNum
namespace Go.Proofs.YtnpfdelklolchaaGreatDoor
open Go Go.RowKit Go.Proofs

theorem lz_bounds (y : Nat) (h0 : 0 < y) (h : y < 18446744073709551616) : ∃ s, s ≤ 63 ∧ Lib.bitLen y + s = 64 ∧ 9223372036854775808 ≤ y * 2 ^ s ∧ y * 2 ^ s < 18446744073709551616 := by
  obtain ⟨h1, h2, h3⟩ := Lib.bitLenAux_bounds 64 y (by simpa using h) (by omega)
  have h4 : Lib.bitLenAux 64 y ≤ 64 := Lib.bitLenAux_le 64 y 64 (by simpa using h)
  have e : Lib.bitLen y = Lib.bitLenAux 64 y := rfl
  obtain ⟨L, hL⟩ : ∃ L, L = Lib.bitLenAux 64 y := ⟨_, rfl⟩
  rw [← hL] at h1 h2 h3 h4 e
  refine ⟨64 - L, by omega, by omega, ?_, ?_⟩
  · have := Nat.mul_le_mul_right (2 ^ (64 - L)) h2
    rw [← Nat.pow_add, show L - 1 + (64 - L) = 63 by omega] at this
    exact this
  · have := Nat.mul_lt_mul_of_pos_right h3 (Nat.pow_pos (n := 64 - L) (show 0 < 2 by omega))
    rw [← Nat.pow_add, show L + (64 - L) = 64 by omega] at this
    exact this

set_option maxHeartbeats 1000000 in
set_option maxRecDepth 100000 in
theorem div64_zero (lo y : Nat) (w : World) (h1 : lo < 18446744073709551616) (hy : 1 ≤ y) (hy' : y < 18446744073709551616) :
    Calls Tryz.prog 97 #[.int .u64 0, .int .u64 lo, .int .u64 y] w fun e w' => e = .returned (.tuple #[.int .u64 ((lo / y : Nat) : Int), .int .u64 ((lo % y : Nat) : Int)]) ∧ ∃ n, w' = w.drewN n := by
  have t1 : ((y : Int) == 0) = false := by simp; omega
  have t2 : decide ((y : Int) ≤ 0) = false := by simp; omega
  obtain ⟨q, hq⟩ : ∃ q, q = lo / y := ⟨_, rfl⟩
  obtain ⟨r, hr⟩ : ∃ r, r = lo % y := ⟨_, rfl⟩
  have e1 : (lo : Int) / (y : Int) = (q : Int) := by rw [hq]; simp
  have e2 : (lo : Int) % (y : Int) = (r : Int) := by rw [hr]; simp
  have hqW : q < 18446744073709551616 := by rw [hq]; exact Nat.lt_of_le_of_lt (Nat.div_le_self _ _) h1
  rw [← hq, ← hr]
  clear hq hr
  go_enter Tryz.func97, Tryz.ntmps97
  go_wp2_with fail
  go_quiet (fail)
  go_wp2
  go_ret2
  refine ⟨?_, _, rfl⟩
  show Ending.returned (.tuple #[.int .u64 (q : Int), .int .u64 ((lo : Int) % (y : Int))]) = _
  rw [e2]

/-- the numbers that the division works with -/
theorem div64_nums (hi lo y s : Nat) (hs : s ≤ 63) (h1 : lo < 18446744073709551616) (hy : hi < y) (hY0 : 9223372036854775808 ≤ y * 2 ^ s) (hY1 : y * 2 ^ s < 18446744073709551616) :
    ∃ Y H L1 U N0 y1 y0 u1 u0 : Nat, Y = y * 2 ^ s ∧ IntKind.u64.wrap ((y : Int) * 2 ^ s) = (Y : Int) ∧ IntKind.u64.wrap ((hi : Int) * 2 ^ s) = (H : Int) ∧ (lo : Int) / 2 ^ (64 - s) = (L1 : Int) ∧ bits .or .u64 (H : Int) (L1 : Int) = (U : Int) ∧ IntKind.u64.wrap ((lo : Int) * 2 ^ s) = (N0 : Int) ∧
      (Y : Int) / 4294967296 = (y1 : Int) ∧ bits .and .u64 (Y : Int) 4294967295 = (y0 : Int) ∧ (N0 : Int) / 4294967296 = (u1 : Int) ∧ bits .and .u64 (N0 : Int) 4294967295 = (u0 : Int) ∧
      Y < 18446744073709551616 ∧ Y = y1 * 4294967296 + y0 ∧ y0 < 4294967296 ∧ y1 < 4294967296 ∧ 2147483648 ≤ y1 ∧ u1 < 4294967296 ∧ u0 < 4294967296 ∧ U < Y ∧ (U * 4294967296 + u1) * 4294967296 + u0 = (hi * 18446744073709551616 + lo) * 2 ^ s := by
  have hp : 0 < 2 ^ s := Nat.pow_pos (by omega)
  have hhi : hi * 2 ^ s + 2 ^ s ≤ y * 2 ^ s := by
    have := Nat.mul_le_mul_right (2 ^ s) (show hi + 1 ≤ y from hy)
    rwa [Nat.add_mul, Nat.one_mul] at this
  have e64 : 2 ^ (64 - s) * 2 ^ s = 18446744073709551616 := by rw [← Nat.pow_add, show 64 - s + s = 64 by omega]
  have hL : lo / 2 ^ (64 - s) < 2 ^ s := by
    rw [Nat.div_lt_iff_lt_mul (Nat.pow_pos (by omega)), Nat.mul_comm, e64]; exact h1
  have hlo := Nat.div_add_mod lo (2 ^ (64 - s))
  have hN0 : lo * 2 ^ s % 18446744073709551616 = lo % 2 ^ (64 - s) * 2 ^ s := by
    rw [← e64]; exact Nat.mul_mod_mul_right _ _ _
  have hU : hi * 2 ^ s ||| lo / 2 ^ (64 - s) = hi * 2 ^ s + lo / 2 ^ (64 - s) := nat_join s _ _ (Nat.mul_mod_left _ _) hL
  refine ⟨y * 2 ^ s, hi * 2 ^ s, lo / 2 ^ (64 - s), hi * 2 ^ s + lo / 2 ^ (64 - s), lo * 2 ^ s % 18446744073709551616, y * 2 ^ s / 4294967296, y * 2 ^ s % 4294967296, lo * 2 ^ s % 18446744073709551616 / 4294967296, lo * 2 ^ s % 18446744073709551616 % 4294967296,
    rfl, ?_, ?_, ?_, ?_, ?_, ?_, ?_, ?_, ?_, hY1, ?_, ?_, ?_, ?_, ?_, ?_, ?_, ?_⟩
  · rw [IntKind.wrap_u64, show ((y : Int) * 2 ^ s) = ((y * 2 ^ s : Nat) : Int) by simp]; omega
  · rw [IntKind.wrap_u64, show ((hi : Int) * 2 ^ s) = ((hi * 2 ^ s : Nat) : Int) by simp]; omega
  · simp
  · rw [u64_or_nat _ _ (by omega) (by omega), hU]
  · rw [IntKind.wrap_u64, show ((lo : Int) * 2 ^ s) = ((lo * 2 ^ s : Nat) : Int) by simp]; omega
  · omega
  · rw [show (4294967295 : Int) = ((4294967295 : Nat) : Int) from rfl, u64_and_nat _ _ hY1 (by omega)]
    exact congrArg Int.ofNat (Nat.and_two_pow_sub_one_eq_mod (y * 2 ^ s) 32)
  · omega
  · rw [show (4294967295 : Int) = ((4294967295 : Nat) : Int) from rfl, u64_and_nat _ _ (by omega) (by omega)]
    exact congrArg Int.ofNat (Nat.and_two_pow_sub_one_eq_mod (lo * 2 ^ s % 18446744073709551616) 32)
  · omega
  · omega
  · omega
  · omega
  · omega
  · omega
  · omega
  · have e1 : lo * 2 ^ s = lo / 2 ^ (64 - s) * 18446744073709551616 + lo * 2 ^ s % 18446744073709551616 := by
      rw [hN0]
      conv => lhs; rw [← hlo, Nat.add_mul, Nat.mul_comm (2 ^ (64 - s)), Nat.mul_assoc, e64]
    have e3 := Nat.add_mul (hi * 18446744073709551616) lo (2 ^ s)
    have e2 : hi * 18446744073709551616 * 2 ^ s = hi * 2 ^ s * 18446744073709551616 := Nat.mul_right_comm _ _ _
    omega

set_option maxHeartbeats 1000000 in
set_option maxRecDepth 100000 in
theorem div64_pos (hi lo y : Nat) (w : World) (h0 : 0 < hi) (h1 : lo < 18446744073709551616) (hy : hi < y) (hy' : y < 18446744073709551616) :
    Calls Tryz.prog 97 #[.int .u64 hi, .int .u64 lo, .int .u64 y] w fun e w' => e = .returned (.tuple #[.int .u64 (((hi * 18446744073709551616 + lo) / y : Nat) : Int), .int .u64 (((hi * 18446744073709551616 + lo) % y : Nat) : Int)]) ∧ ∃ n, w' = w.drewN n := by
  have t1 : ((y : Int) == 0) = false := by simp; omega
  have t2 : decide ((y : Int) ≤ hi) = false := by simp; omega
  have t3 : ((hi : Int) == 0) = false := by simp; omega
  obtain ⟨s, hs, hbl, hY0, hY1⟩ := lz_bounds y (by omega) hy'
  have HLZ := Lib.hid (show ∀ W, Calls Tryz.prog 70 #[.int .u64 y] W fun e w' => e = .returned (.int .i64 (s : Int)) ∧ W = w' from fun W => (Tryz.bits_LeadingZeros64 y W (by omega) (by omega)).mono fun e w' ⟨he, hw⟩ => ⟨by rw [he]; simp; omega, hw.symm⟩)
  obtain ⟨Y, H, L1, U, N0, y1, y0, u1, u0, hYe, f1, f2, f3, f4, f5, f6, f7, f8, f9, hYW, hY, hy0, hy1, hy1', hu1, hu0, hUY, hN⟩ := div64_nums hi lo y s hs h1 hy hY0 hY1
  have HYE := Lib.hid hYe
  have HY := Lib.hid hY
  have HN := Lib.hid hN
  have hYp : 0 < Y := by omega
  have HF := Lib.hid (two_digits (u := U) (a := u1) (b := u0) (B := 4294967296) hYp)
  clear hYe hY hN hbl hY0 hY1
  have k1 : ((y1 : Int) == 0) = false := by simp; omega
  obtain ⟨Q0, hQ0⟩ : ∃ q, q = U / y1 := ⟨_, rfl⟩
  have g1T : (U : Int) / (y1 : Int) = (Q0 : Int) := by rw [hQ0]; simp
  have hQ0b : Q0 ≤ 4294967297 := by rw [hQ0]; exact kn_bound (B := 4294967296) (by omega) hy0 (by have := HY.out; omega)
  obtain ⟨P0, hP0⟩ : ∃ p, p = Q0 * y1 := ⟨_, rfl⟩
  have g2T : (Q0 : Int) * (y1 : Int) = (P0 : Int) := by rw [hP0]; simp
  have hP0U : P0 ≤ U := by rw [hP0, hQ0]; exact Nat.div_mul_le_self _ _
  have hP0R : U < P0 + y1 := by
    rw [hP0, hQ0, Nat.mul_comm]
    have := Nat.lt_mul_div_succ U (show 0 < y1 by omega)
    rw [Nat.mul_add] at this; omega
  have HP0 := Lib.hid hP0
  obtain ⟨T, hT⟩ : ∃ z, z = (U * 4294967296 + u1) / Y := ⟨_, rfl⟩
  have HT := Lib.hid hT
  have hTB : T < 4294967296 := by rw [hT]; exact digit_lt hUY hu1
  have hTQ : T ≤ Q0 := by rw [hT, hQ0, HY.out]; exact kn_first (by omega) hu1
  clear hQ0 hP0 hT
  obtain ⟨V, hV⟩ : ∃ z, z = (U * 4294967296 + u1) % Y := ⟨_, rfl⟩
  have hVY : V < Y := by rw [hV]; exact Nat.mod_lt _ hYp
  have HV := Lib.hid hV
  have f10 : IntKind.u64.wrap (IntKind.u64.wrap (IntKind.u64.wrap ((U : Int) * 4294967296) + (u1 : Int)) - IntKind.u64.wrap ((T : Int) * (Y : Int))) = (V : Int) := by
    have e := Nat.div_add_mod (U * 4294967296 + u1) Y
    rw [← hV, ← HT.out, Nat.mul_comm] at e
    simp only [IntKind.wrap_u64]
    rw [show (T : Int) * (Y : Int) = ((T * Y : Nat) : Int) by simp]
    omega
  clear hV
  obtain ⟨Q2, hQ2⟩ : ∃ q, q = V / y1 := ⟨_, rfl⟩
  have g1T2 : (V : Int) / (y1 : Int) = (Q2 : Int) := by rw [hQ2]; simp
  have hQ2b : Q2 ≤ 4294967297 := by rw [hQ2]; exact kn_bound (B := 4294967296) (by omega) hy0 (by have := HY.out; omega)
  obtain ⟨P2, hP2⟩ : ∃ p, p = Q2 * y1 := ⟨_, rfl⟩
  have g2T2 : (Q2 : Int) * (y1 : Int) = (P2 : Int) := by rw [hP2]; simp
  have hP2U : P2 ≤ V := by rw [hP2, hQ2]; exact Nat.div_mul_le_self _ _
  have hP2R : V < P2 + y1 := by
    rw [hP2, hQ2, Nat.mul_comm]
    have := Nat.lt_mul_div_succ V (show 0 < y1 by omega)
    rw [Nat.mul_add] at this; omega
  have HP2 := Lib.hid hP2
  obtain ⟨T2, hT2⟩ : ∃ z, z = (V * 4294967296 + u0) / Y := ⟨_, rfl⟩
  have HT2 := Lib.hid hT2
  have hT2B : T2 < 4294967296 := by rw [hT2]; exact digit_lt hVY hu0
  have hT2Q : T2 ≤ Q2 := by rw [hT2, hQ2, HY.out]; exact kn_first (by omega) hu0
  clear hQ2 hP2 hT2
  obtain ⟨R2, hR2⟩ : ∃ z, z = (V * 4294967296 + u0) % Y := ⟨_, rfl⟩
  have hR2Y : R2 < Y := by rw [hR2]; exact Nat.mod_lt _ hYp
  have f11 : IntKind.u64.wrap (IntKind.u64.wrap (IntKind.u64.wrap ((V : Int) * 4294967296) + (u0 : Int)) - IntKind.u64.wrap ((T2 : Int) * (Y : Int))) = (R2 : Int) := by
    have e := Nat.div_add_mod (V * 4294967296 + u0) Y
    rw [← hR2, ← HT2.out, Nat.mul_comm] at e
    simp only [IntKind.wrap_u64]
    rw [show (T2 : Int) * (Y : Int) = ((T2 * Y : Nat) : Int) by simp]
    omega
  have hp : 0 < 2 ^ s := Nat.pow_pos (by omega)
  have HRES := Lib.hid (show (T * 4294967296 + T2 = (hi * 18446744073709551616 + lo) / y) ∧ (R2 : Int) / 2 ^ s = (((hi * 18446744073709551616 + lo) % y : Nat) : Int) from by
    have a := HF.out
    rw [← HT.out, ← HV.out, ← HT2.out, ← hR2, HN.out, HYE.out, (shifted hp).1, (shifted hp).2] at a
    refine ⟨a.1.symm, ?_⟩
    rw [← a.2]
    have : (2 : Int) ^ s = ((2 ^ s : Nat) : Int) := by simp
    rw [this, ← Int.natCast_ediv, Nat.mul_div_cancel _ hp])
  clear hR2 hp
  go_enter Tryz.func97, Tryz.ntmps97
  go_wp2_with fail
  refine (HLZ.out _).mono ?_
  rintro e w' ⟨rfl, rfl⟩
  go_upto_block 0 with fail
  go_cut [15, 16] from 67 (fun q _ wx => q = .int .u64 (T : Int) ∧ wx = w)
  case first =>
    go_wp2_with fail
    go_loop [15, 16] (fun q r => ∃ Q R : Nat, q = .int .u64 Q ∧ r = .int .u64 R ∧ Q * y1 + R = U ∧ R < 4294967296 ∧ T ≤ Q ∧ Q ≤ 4294967297) (fun q _ => (intOf q).toNat)
    case atStart => exact ⟨Q0, U - P0, rfl, by go_num, by rw [← HP0.out]; omega, by omega, hTQ, hQ0b⟩
    case round =>
      obtain ⟨Q, R, rfl, rfl, hQR, hR, hTQ', hQ⟩ := hrel
      have HQR := Lib.hid hQR
      obtain ⟨P, hP⟩ : ∃ P, P = Q * y0 := ⟨_, rfl⟩
      have eP : (Q : Int) * (y0 : Int) = (P : Int) := by rw [hP]; simp
      have hPW : P < 18446744073709551616 := by
        rw [hP]
        have := Nat.mul_le_mul hQ (show y0 ≤ 4294967295 by omega)
        omega
      have HP := Lib.hid hP
      clear hQR hP
      by_cases ht : 4294967296 ≤ Q ∨ 4294967296 * R + u1 < P
      · have hTl : T < Q := by
          rcases ht with h | h
          · omega
          · rw [HT.out]
            refine kn_less hYp ?_
            rw [HY.out]
            exact kn_gt HQR.out (by rw [← HP.out]; exact h)
        have HQR' := Lib.hid (show (Q - 1) * y1 + (R + y1) = U by
          have := HQR.out
          have e : Q * y1 = (Q - 1) * y1 + y1 := by
            conv => lhs; rw [show Q = (Q - 1) + 1 by omega, Nat.add_mul, Nat.one_mul]
          omega)
        by_cases hbk : 4294967296 ≤ R + y1
        · have HE := Lib.hid (show Q - 1 = T by
            rw [HT.out]
            refine kn_is hYp ?_ (by rw [← HT.out]; omega)
            rw [HY.out]
            exact kn_break (r := R + y1) HQR'.out hbk (by omega) hy0)
          have b2 : decide (4294967296 ≤ (R : Int) + y1) = true := by simp; omega
          clear hbk
          by_cases ht1 : 4294967296 ≤ Q
          · have b1 : decide (4294967296 ≤ (Q : Int)) = true := by simp; omega
            clear ht ht1
            go_wp2
            go_meet
            case rel => exact ⟨by have := HE.out; go_num, rfl⟩
          · have b1 : decide (4294967296 ≤ (Q : Int)) = false := by simp; omega
            have b3 : decide (4294967296 * (R : Int) + u1 < P) = true := by simp; omega
            clear ht
            go_wp2
            go_meet
            case rel => exact ⟨by have := HE.out; go_num, rfl⟩
        · have b2 : decide (4294967296 ≤ (R : Int) + y1) = false := by simp; omega
          have HBK := Lib.hid (show R + y1 < 4294967296 by omega)
          clear hbk
          by_cases ht1 : 4294967296 ≤ Q
          · have b1 : decide (4294967296 ≤ (Q : Int)) = true := by simp; omega
            clear ht ht1
            go_wp2
            go_round
            case rel => exact ⟨Q - 1, R + y1, by go_num, by go_num, HQR'.out, HBK.out, by omega, by omega⟩
            case measure => simp [intOf]; omega
          · have b1 : decide (4294967296 ≤ (Q : Int)) = false := by simp; omega
            have b3 : decide (4294967296 * (R : Int) + u1 < P) = true := by simp; omega
            clear ht
            go_wp2
            go_round
            case rel => exact ⟨Q - 1, R + y1, by go_num, by go_num, HQR'.out, HBK.out, by omega, by omega⟩
            case measure => simp [intOf]; omega
      · have HE := Lib.hid (show Q = T by
          rw [HT.out]
          refine kn_is hYp ?_ (by rw [← HT.out]; omega)
          rw [HY.out]
          exact kn_le HQR.out (by rw [← HP.out]; omega))
        have b1 : decide (4294967296 ≤ (Q : Int)) = false := by simp; omega
        have b3 : decide (4294967296 * (R : Int) + u1 < P) = false := by simp; omega
        clear ht
        go_wp2
        go_meet
        case rel => exact ⟨by have := HE.out; go_num, rfl⟩
  case rest =>
    obtain ⟨rfl, rfl⟩ := hcut
    go_upto_block 2 with fail
    go_cut [18, 16] from 102 (fun q _ wx => q = .int .u64 (T2 : Int) ∧ wx = wc)
    case first =>
      go_wp2_with fail
      go_loop [18, 16] (fun q r => ∃ Q R : Nat, q = .int .u64 Q ∧ r = .int .u64 R ∧ Q * y1 + R = V ∧ R < 4294967296 ∧ T2 ≤ Q ∧ Q ≤ 4294967297) (fun q _ => (intOf q).toNat)
      case atStart => exact ⟨Q2, V - P2, rfl, by go_num, by rw [← HP2.out]; omega, by omega, hT2Q, hQ2b⟩
      case round =>
        obtain ⟨Q, R, rfl, rfl, hQR, hR, hTQ', hQ⟩ := hrel
        have HQR := Lib.hid hQR
        obtain ⟨P, hP⟩ : ∃ P, P = Q * y0 := ⟨_, rfl⟩
        have eP : (Q : Int) * (y0 : Int) = (P : Int) := by rw [hP]; simp
        have hPW : P < 18446744073709551616 := by
          rw [hP]
          have := Nat.mul_le_mul hQ (show y0 ≤ 4294967295 by omega)
          omega
        have HP := Lib.hid hP
        clear hQR hP
        by_cases ht : 4294967296 ≤ Q ∨ 4294967296 * R + u0 < P
        · have hTl : T2 < Q := by
            rcases ht with h | h
            · omega
            · rw [HT2.out]
              refine kn_less hYp ?_
              rw [HY.out]
              exact kn_gt HQR.out (by rw [← HP.out]; exact h)
          have HQR' := Lib.hid (show (Q - 1) * y1 + (R + y1) = V by
            have := HQR.out
            have e : Q * y1 = (Q - 1) * y1 + y1 := by
              conv => lhs; rw [show Q = (Q - 1) + 1 by omega, Nat.add_mul, Nat.one_mul]
            omega)
          by_cases hbk : 4294967296 ≤ R + y1
          · have HE := Lib.hid (show Q - 1 = T2 by
              rw [HT2.out]
              refine kn_is hYp ?_ (by rw [← HT2.out]; omega)
              rw [HY.out]
              exact kn_break (r := R + y1) HQR'.out hbk (by omega) hy0)
            have b2 : decide (4294967296 ≤ (R : Int) + y1) = true := by simp; omega
            clear hbk
            by_cases ht1 : 4294967296 ≤ Q
            · have b1 : decide (4294967296 ≤ (Q : Int)) = true := by simp; omega
              clear ht ht1
              go_wp2
              go_meet
              case rel => exact ⟨by have := HE.out; go_num, rfl⟩
            · have b1 : decide (4294967296 ≤ (Q : Int)) = false := by simp; omega
              have b3 : decide (4294967296 * (R : Int) + u0 < P) = true := by simp; omega
              clear ht
              go_wp2
              go_meet
              case rel => exact ⟨by have := HE.out; go_num, rfl⟩
          · have b2 : decide (4294967296 ≤ (R : Int) + y1) = false := by simp; omega
            have HBK := Lib.hid (show R + y1 < 4294967296 by omega)
            clear hbk
            by_cases ht1 : 4294967296 ≤ Q
            · have b1 : decide (4294967296 ≤ (Q : Int)) = true := by simp; omega
              clear ht ht1
              go_wp2
              go_round
              case rel => exact ⟨Q - 1, R + y1, by go_num, by go_num, HQR'.out, HBK.out, by omega, by omega⟩
              case measure => simp [intOf]; omega
            · have b1 : decide (4294967296 ≤ (Q : Int)) = false := by simp; omega
              have b3 : decide (4294967296 * (R : Int) + u0 < P) = true := by simp; omega
              clear ht
              go_wp2
              go_round
              case rel => exact ⟨Q - 1, R + y1, by go_num, by go_num, HQR'.out, HBK.out, by omega, by omega⟩
              case measure => simp [intOf]; omega
        · have HE := Lib.hid (show Q = T2 by
            rw [HT2.out]
            refine kn_is hYp ?_ (by rw [← HT2.out]; omega)
            rw [HY.out]
            exact kn_le HQR.out (by rw [← HP.out]; omega))
          have b1 : decide (4294967296 ≤ (Q : Int)) = false := by simp; omega
          have b3 : decide (4294967296 * (R : Int) + u0 < P) = false := by simp; omega
          clear ht
          go_wp2
          go_meet
          case rel => exact ⟨by have := HE.out; go_num, rfl⟩
    case rest =>
      obtain ⟨rfl, rfl⟩ := hcut
      go_wp2
      go_ret2
      refine ⟨?_, 0, rfl⟩
      have a := HRES.out
      show Ending.returned (.tuple #[.int .u64 ((T : Int) * 4294967296 + (T2 : Int)), .int .u64 ((R2 : Int) / 2 ^ s)]) = _
      rw [← a.1, a.2]
      simp

theorem div64_any (hi lo y : Nat) (w : World) (h1 : lo < 18446744073709551616) (hy : hi < y) (hy' : y < 18446744073709551616) :
    Calls Tryz.prog 97 #[.int .u64 hi, .int .u64 lo, .int .u64 y] w fun e w' => e = .returned (.tuple #[.int .u64 (((hi * 18446744073709551616 + lo) / y : Nat) : Int), .int .u64 (((hi * 18446744073709551616 + lo) % y : Nat) : Int)]) ∧ ∃ n, w' = w.drewN n := by
  rcases Nat.eq_zero_or_pos hi with rfl | h
  · rw [Nat.zero_mul, Nat.zero_add]
    exact div64_zero lo y w h1 hy hy'
  · exact div64_pos hi lo y w h h1 hy hy'
end Go.Proofs.YtnpfdelklolchaaGreatDoor
