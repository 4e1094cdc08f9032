import Derived.Test.YtlkjgjojahjapaaGreatDoorG38
import Derived.Test.YtlkjgjojahjapaaGreatDoorG15
import Derived.Test.YtlkjgjojahjapaaGreatDoorShelf
import Derived.Test.YtlkjgjojahjapaaGreatDoorG1
import Derived.Maps.Own
import Derived.Maps.OwnOps
import Derived.Maps.OwnSet
import Derived.Maps.RangeWalk
import Derived.Maps.AppendAt
import Derived.Test.YtlkjgjojahjapaaGreatDoorG24
import Derived.Test.YtlkjgjojahjapaaGreatDoorG30
/- The reference's CheckTrial. Printed by gen_r10trl3.py. -/
namespace Go.Proofs.YtlkjgjojahjapaaGreatDoor
open Go Go.RowKit Go.Proofs

set_option maxHeartbeats 8000000 in
set_option maxRecDepth 100000 in
theorem rCheckTrial_any (S0 S1 S2 S3 S4 S5 S6 S7 : ByteArray) (w : World) (z0 : S0.size ≤ 9223372036854775800) (z1 : S1.size ≤ 9223372036854775800) (z2 : S2.size ≤ 9223372036854775800) (z3 : S3.size ≤ 9223372036854775800) (z4 : S4.size ≤ 9223372036854775800) (z5 : S5.size ≤ 9223372036854775800) (z6 : S6.size ≤ 9223372036854775800) (z7 : S7.size ≤ 9223372036854775800) :
    Calls Tryz.prog 30 #[.agg #[.string S0, .string S1, .string S2, .string S3, .string S4, .string S5, .string S6, .string S7]] w fun e w' => e = .returned (.int .i64 (trCode (TL S0 S1 S2 S3 S4 S5 S6 S7) (prQ (S0, S1)) (prQ (S2, S3)))) ∧ Below w.heap.size w w' := by
  obtain ⟨L, hL⟩ : ∃ L, L = TL S0 S1 S2 S3 S4 S5 S6 S7 := ⟨_, rfl⟩
  have HL := Lib.hid hL
  have HSR := Lib.hid (show ∀ (Sa Sb : ByteArray) (i : Nat), L[i]? = some (Sa, Sb) → ∀ W, Calls Tryz.prog 83 #[.agg #[.string Sa, .string Sb], .int .i64 0, .int .i64 1, .bool true] W fun e w' => e = .returned (.int .i64 (shC .between Sa.data.toList Sb.data.toList)) ∧ Below W.heap.size W w' from fun Sa Sb i hi W => by
    have hz : Sa.size ≤ 9223372036854775800 ∧ Sb.size ≤ 9223372036854775800 := by
      rw [hL] at hi
      unfold TL at hi
      rcases four_at hi with ⟨_, h⟩ | ⟨_, h⟩ | ⟨_, h⟩ | ⟨_, h⟩ <;> (simp only [Prod.mk.injEq] at h; obtain ⟨rfl, rfl⟩ := h; constructor <;> assumption)
    have h := rShortR_any Sa Sb _ _ 0 1 true W rfl rfl hz.1 hz.2 (by omega) (by omega) (by omega) (by omega)
    rw [show shR 0 1 true Sa.data.toList Sb.data.toList = shC .between Sa.data.toList Sb.data.toList from shR_eq .between _ _] at h
    exact h)
  obtain ⟨V, hV⟩ : ∃ V, V = trCode (TL S0 S1 S2 S3 S4 S5 S6 S7) (prQ (S0, S1)) (prQ (S2, S3)) := ⟨_, rfl⟩
  have HVE := Lib.hid (show V = trCode L (prQ (S0, S1)) (prQ (S2, S3)) from by rw [hV, hL])
  have HK0 := Lib.hid (show shL L = 0 → cRt S0.data.toList S1.data.toList = 0 ∧ cRt S2.data.toList S3.data.toList = 0 ∧ (prQ (S0, S1)).den < 1000000 ∧ (prQ (S2, S3)).den < 1000000 ∧ frN (prQ (S0, S1)) < 1000000 ∧ frN (prQ (S2, S3)) < 1000000 from fun h => by
    have hz : ∀ (j : Nat) (p : ByteArray × ByteArray), L[j]? = some p → shC .between p.1.data.toList p.2.data.toList = 0 := by
      intro j
      induction j using Nat.strongRecOn with
      | ind j ih =>
        intro p hp
        refine Classical.byContradiction fun hc => ?_
        have := shL_at hp (fun i q hi hq => ih i hi q hq) hc
        rw [h] at this
        exact hc this.symm
    have g0 := hz 0 (S0, S1) (by rw [hL]; rfl)
    have g1 := hz 1 (S2, S3) (by rw [hL]; rfl)
    have y0 := prQ_small g0
    have y1 := prQ_small g1
    exact ⟨(shC_zero g0).1, (shC_zero g1).1, y0.2.2.1, y1.2.2.1, by omega, by omega⟩)
  rw [← hV]
  obtain ⟨W0, hW0⟩ : ∃ W0, W0 = w.alloc (.cells #[.string S0, .string S1, .string S2, .string S3, .string S4, .string S5, .string S6, .string S7] 25) := ⟨_, rfl⟩
  have HST0 := Lib.hid (show St w W0 [(w.heap.size, .cells #[.string S0, .string S1, .string S2, .string S3, .string S4, .string S5, .string S6, .string S7] 25 (0, 0))] by rw [hW0]; exact (St.start w).alloc _ _ rfl)
  have HK := Lib.hid (show ∀ X, Below W0.heap.size W0 X → X.cell? ⟨w.heap.size, 0, none⟩ = some (.string S0) ∧ X.cell? ⟨w.heap.size, 1, none⟩ = some (.string S1) ∧ X.cell? ⟨w.heap.size, 2, none⟩ = some (.string S2) ∧ X.cell? ⟨w.heap.size, 3, none⟩ = some (.string S3) ∧ X.cell? ⟨w.heap.size, 4, none⟩ = some (.string S4) ∧ X.cell? ⟨w.heap.size, 5, none⟩ = some (.string S5) ∧ X.cell? ⟨w.heap.size, 6, none⟩ = some (.string S6) ∧ X.cell? ⟨w.heap.size, 7, none⟩ = some (.string S7) from fun X hX => ⟨(HST0.out.call hX).cell 0 0 rfl rfl, (HST0.out.call hX).cell 0 1 rfl rfl, (HST0.out.call hX).cell 0 2 rfl rfl, (HST0.out.call hX).cell 0 3 rfl rfl, (HST0.out.call hX).cell 0 4 rfl rfl, (HST0.out.call hX).cell 0 5 rfl rfl, (HST0.out.call hX).cell 0 6 rfl rfl, (HST0.out.call hX).cell 0 7 rfl rfl⟩)
  obtain ⟨p0, p1, p2, p3, p4, p5, p6, p7⟩ := HK.out W0 (Below.refl _ _)
  clear hL hV z0 z1 z2 z3 z4 z5 z6 z7
  go_enter Tryz.func30, Tryz.ntmps30
  go_wp2
  rw [← hW0]
  clear hW0
  go_loopw [15] (fun kv wr => ∃ i : Nat, kv = .int .i64 (i : Nat) ∧ i ≤ 4 ∧ (∀ (j : Nat) (p : ByteArray × ByteArray), j < i → L[j]? = some p → shC .between p.1.data.toList p.2.data.toList = 0) ∧ Below W0.heap.size W0 wr) (fun kv _ => 4 - (intOf kv).toNat)
  case atStart => exact ⟨0, rfl, by omega, fun j p hj => by omega, Below.refl _ _⟩
  case round =>
    obtain ⟨i, rfl, hi4, hall, hbw⟩ := hrel
    have HBW := Lib.hid hbw
    have HALL := Lib.hid hall
    clear p0 p1 p2 p3 p4 p5 p6 p7
    by_cases hlt : i < 4
    · have h4 : i = 0 ∨ i = 1 ∨ i = 2 ∨ i = 3 := by omega
      rcases h4 with rfl | rfl | rfl | rfl
      · have HP := Lib.hid (show L[0]? = some (S0, S1) from by rw [HL.out]; rfl)
        have HS := Lib.hid (fun W => HSR.out S0 S1 0 HP.out W)
        have HS2 := Lib.hid (show ∀ W, Calls Tryz.prog 83 #[.agg #[.string S0, .string S1], .int .i64 0, .int .i64 1, .bool true] W fun e w' => e = .returned (.int .i64 (shC .between S0.data.toList S1.data.toList)) ∧ Below W.heap.size W w' from HS.out)
        obtain ⟨cc, hcc⟩ : ∃ c, c = shC .between S0.data.toList S1.data.toList := ⟨_, rfl⟩
        rw [← hcc] at HS2
        have HCC := Lib.hid hcc
        obtain ⟨W1, hW1⟩ : ∃ W1, W1 = wr.alloc (.cells #[.string S0, .string S1] 23) := ⟨_, rfl⟩
        have HB1 := Lib.hid (show Below wr.heap.size wr W1 by rw [hW1]; exact (Below.refl _ wr).alloc (Nat.le_refl _) _)
        have hix : (Instr.index 135 (.agg #[.string S0, .string S1, .string S2, .string S3, .string S4, .string S5, .string S6, .string S7]) (.int .i64 0)).run Tryz.prog wr = .ok (.agg #[.string S0, .string S1]) wr := by kernel_rfl
        clear HS hcc hall hbw
        go_wp2_with fail
        rw [← hW1]
        clear hW1
        (with_reducible refine (HS2.out W1).mono ?_)
        rintro e w2 ⟨rfl, hb2⟩
        have HB2 := Lib.hid (below_next HBW.out (below_next HB1.out hb2))
        clear hb2
        by_cases hcz : cc = 0
        · have t1 : (cc != 0) = false := by rw [hcz]; rfl
          have HZ := Lib.hid hcz
          clear hcz
          go_wp2
          go_roundw
          case rel => exact ⟨0 + 1, by first | rfl | simp | go_num, by omega, fun j p hj hp => by
            rcases Nat.lt_or_ge j 0 with hl | hl
            · exact HALL.out j p hl hp
            · obtain rfl : j = 0 := by omega
              obtain rfl := Option.some.inj (HP.out.symm.trans hp)
              exact HCC.out.symm.trans HZ.out, HB2.out⟩
          case measure => first | (simp [intOf]; done) | (simp [intOf]; omega)
        · have t1 : (cc != 0) = true := by rw [bne_iff_ne]; exact hcz
          have HV := Lib.hid (show V = cc from by
            have h := shL_at HP.out HALL.out (by show shC .between S0.data.toList S1.data.toList ≠ 0; rw [← HCC.out]; exact hcz)
            have h2 : shL L = cc := by rw [h]; exact HCC.out.symm
            rw [HVE.out]; unfold trCode; rw [if_pos (by rw [h2]; exact hcz), h2])
          clear hcz
          go_wp2
          go_ret
          exact ⟨by rw [HV.out]; rfl, below_next HST0.out.below HB2.out⟩
      · have HP := Lib.hid (show L[1]? = some (S2, S3) from by rw [HL.out]; rfl)
        have HS := Lib.hid (fun W => HSR.out S2 S3 1 HP.out W)
        have HS2 := Lib.hid (show ∀ W, Calls Tryz.prog 83 #[.agg #[.string S2, .string S3], .int .i64 0, .int .i64 1, .bool true] W fun e w' => e = .returned (.int .i64 (shC .between S2.data.toList S3.data.toList)) ∧ Below W.heap.size W w' from HS.out)
        obtain ⟨cc, hcc⟩ : ∃ c, c = shC .between S2.data.toList S3.data.toList := ⟨_, rfl⟩
        rw [← hcc] at HS2
        have HCC := Lib.hid hcc
        obtain ⟨W1, hW1⟩ : ∃ W1, W1 = wr.alloc (.cells #[.string S2, .string S3] 23) := ⟨_, rfl⟩
        have HB1 := Lib.hid (show Below wr.heap.size wr W1 by rw [hW1]; exact (Below.refl _ wr).alloc (Nat.le_refl _) _)
        have hix : (Instr.index 135 (.agg #[.string S0, .string S1, .string S2, .string S3, .string S4, .string S5, .string S6, .string S7]) (.int .i64 1)).run Tryz.prog wr = .ok (.agg #[.string S2, .string S3]) wr := by kernel_rfl
        clear HS hcc hall hbw
        go_wp2_with fail
        rw [← hW1]
        clear hW1
        (with_reducible refine (HS2.out W1).mono ?_)
        rintro e w2 ⟨rfl, hb2⟩
        have HB2 := Lib.hid (below_next HBW.out (below_next HB1.out hb2))
        clear hb2
        by_cases hcz : cc = 0
        · have t1 : (cc != 0) = false := by rw [hcz]; rfl
          have HZ := Lib.hid hcz
          clear hcz
          go_wp2
          go_roundw
          case rel => exact ⟨1 + 1, by first | rfl | simp | go_num, by omega, fun j p hj hp => by
            rcases Nat.lt_or_ge j 1 with hl | hl
            · exact HALL.out j p hl hp
            · obtain rfl : j = 1 := by omega
              obtain rfl := Option.some.inj (HP.out.symm.trans hp)
              exact HCC.out.symm.trans HZ.out, HB2.out⟩
          case measure => first | (simp [intOf]; done) | (simp [intOf]; omega)
        · have t1 : (cc != 0) = true := by rw [bne_iff_ne]; exact hcz
          have HV := Lib.hid (show V = cc from by
            have h := shL_at HP.out HALL.out (by show shC .between S2.data.toList S3.data.toList ≠ 0; rw [← HCC.out]; exact hcz)
            have h2 : shL L = cc := by rw [h]; exact HCC.out.symm
            rw [HVE.out]; unfold trCode; rw [if_pos (by rw [h2]; exact hcz), h2])
          clear hcz
          go_wp2
          go_ret
          exact ⟨by rw [HV.out]; rfl, below_next HST0.out.below HB2.out⟩
      · have HP := Lib.hid (show L[2]? = some (S4, S5) from by rw [HL.out]; rfl)
        have HS := Lib.hid (fun W => HSR.out S4 S5 2 HP.out W)
        have HS2 := Lib.hid (show ∀ W, Calls Tryz.prog 83 #[.agg #[.string S4, .string S5], .int .i64 0, .int .i64 1, .bool true] W fun e w' => e = .returned (.int .i64 (shC .between S4.data.toList S5.data.toList)) ∧ Below W.heap.size W w' from HS.out)
        obtain ⟨cc, hcc⟩ : ∃ c, c = shC .between S4.data.toList S5.data.toList := ⟨_, rfl⟩
        rw [← hcc] at HS2
        have HCC := Lib.hid hcc
        obtain ⟨W1, hW1⟩ : ∃ W1, W1 = wr.alloc (.cells #[.string S4, .string S5] 23) := ⟨_, rfl⟩
        have HB1 := Lib.hid (show Below wr.heap.size wr W1 by rw [hW1]; exact (Below.refl _ wr).alloc (Nat.le_refl _) _)
        have hix : (Instr.index 135 (.agg #[.string S0, .string S1, .string S2, .string S3, .string S4, .string S5, .string S6, .string S7]) (.int .i64 2)).run Tryz.prog wr = .ok (.agg #[.string S4, .string S5]) wr := by kernel_rfl
        clear HS hcc hall hbw
        go_wp2_with fail
        rw [← hW1]
        clear hW1
        (with_reducible refine (HS2.out W1).mono ?_)
        rintro e w2 ⟨rfl, hb2⟩
        have HB2 := Lib.hid (below_next HBW.out (below_next HB1.out hb2))
        clear hb2
        by_cases hcz : cc = 0
        · have t1 : (cc != 0) = false := by rw [hcz]; rfl
          have HZ := Lib.hid hcz
          clear hcz
          go_wp2
          go_roundw
          case rel => exact ⟨2 + 1, by first | rfl | simp | go_num, by omega, fun j p hj hp => by
            rcases Nat.lt_or_ge j 2 with hl | hl
            · exact HALL.out j p hl hp
            · obtain rfl : j = 2 := by omega
              obtain rfl := Option.some.inj (HP.out.symm.trans hp)
              exact HCC.out.symm.trans HZ.out, HB2.out⟩
          case measure => first | (simp [intOf]; done) | (simp [intOf]; omega)
        · have t1 : (cc != 0) = true := by rw [bne_iff_ne]; exact hcz
          have HV := Lib.hid (show V = cc from by
            have h := shL_at HP.out HALL.out (by show shC .between S4.data.toList S5.data.toList ≠ 0; rw [← HCC.out]; exact hcz)
            have h2 : shL L = cc := by rw [h]; exact HCC.out.symm
            rw [HVE.out]; unfold trCode; rw [if_pos (by rw [h2]; exact hcz), h2])
          clear hcz
          go_wp2
          go_ret
          exact ⟨by rw [HV.out]; rfl, below_next HST0.out.below HB2.out⟩
      · have HP := Lib.hid (show L[3]? = some (S6, S7) from by rw [HL.out]; rfl)
        have HS := Lib.hid (fun W => HSR.out S6 S7 3 HP.out W)
        have HS2 := Lib.hid (show ∀ W, Calls Tryz.prog 83 #[.agg #[.string S6, .string S7], .int .i64 0, .int .i64 1, .bool true] W fun e w' => e = .returned (.int .i64 (shC .between S6.data.toList S7.data.toList)) ∧ Below W.heap.size W w' from HS.out)
        obtain ⟨cc, hcc⟩ : ∃ c, c = shC .between S6.data.toList S7.data.toList := ⟨_, rfl⟩
        rw [← hcc] at HS2
        have HCC := Lib.hid hcc
        obtain ⟨W1, hW1⟩ : ∃ W1, W1 = wr.alloc (.cells #[.string S6, .string S7] 23) := ⟨_, rfl⟩
        have HB1 := Lib.hid (show Below wr.heap.size wr W1 by rw [hW1]; exact (Below.refl _ wr).alloc (Nat.le_refl _) _)
        have hix : (Instr.index 135 (.agg #[.string S0, .string S1, .string S2, .string S3, .string S4, .string S5, .string S6, .string S7]) (.int .i64 3)).run Tryz.prog wr = .ok (.agg #[.string S6, .string S7]) wr := by kernel_rfl
        clear HS hcc hall hbw
        go_wp2_with fail
        rw [← hW1]
        clear hW1
        (with_reducible refine (HS2.out W1).mono ?_)
        rintro e w2 ⟨rfl, hb2⟩
        have HB2 := Lib.hid (below_next HBW.out (below_next HB1.out hb2))
        clear hb2
        by_cases hcz : cc = 0
        · have t1 : (cc != 0) = false := by rw [hcz]; rfl
          have HZ := Lib.hid hcz
          clear hcz
          go_wp2
          go_roundw
          case rel => exact ⟨3 + 1, by first | rfl | simp | go_num, by omega, fun j p hj hp => by
            rcases Nat.lt_or_ge j 3 with hl | hl
            · exact HALL.out j p hl hp
            · obtain rfl : j = 3 := by omega
              obtain rfl := Option.some.inj (HP.out.symm.trans hp)
              exact HCC.out.symm.trans HZ.out, HB2.out⟩
          case measure => first | (simp [intOf]; done) | (simp [intOf]; omega)
        · have t1 : (cc != 0) = true := by rw [bne_iff_ne]; exact hcz
          have HV := Lib.hid (show V = cc from by
            have h := shL_at HP.out HALL.out (by show shC .between S6.data.toList S7.data.toList ≠ 0; rw [← HCC.out]; exact hcz)
            have h2 : shL L = cc := by rw [h]; exact HCC.out.symm
            rw [HVE.out]; unfold trCode; rw [if_pos (by rw [h2]; exact hcz), h2])
          clear hcz
          go_wp2
          go_ret
          exact ⟨by rw [HV.out]; rfl, below_next HST0.out.below HB2.out⟩
    · obtain rfl : i = 4 := by omega
      have hsl : shL L = 0 := shL_all fun j p hp => hall j p (by have := (List.getElem?_eq_some_iff.1 hp).1; rw [HL.out] at this; exact this) hp
      obtain ⟨k0, k1, d0, d1, m0, m1⟩ := HK0.out hsl
      have HF1 := Lib.hid (fun W => rFrom_any S0 S1 _ _ W rfl rfl k0)
      have HF2 := Lib.hid (fun W => rFrom_any S2 S3 _ _ W rfl rfl k1)
      have HVL := Lib.hid (show V = if 0 ≤ ordQ (prQ (S0, S1)) (prQ (S2, S3)) then 10 else 0 from by rw [HVE.out]; unfold trCode; rw [if_neg (by rw [hsl]; decide)])
      rw [show ratX S0.data.toList S1.data.toList = prQ (S0, S1) from rfl] at HF1
      rw [show ratX S2.data.toList S3.data.toList = prQ (S2, S3) from rfl] at HF2
      obtain ⟨p, hp⟩ : ∃ q, q = prQ (S0, S1) := ⟨_, rfl⟩
      obtain ⟨q, hq⟩ : ∃ r, r = prQ (S2, S3) := ⟨_, rfl⟩
      rw [← hp] at HF1 HVL d0 m0
      rw [← hq] at HF2 HVL d1 m1
      have HOR := Lib.hid (fun W u v (hu : FracR W u p) (hv : FracR W v q) => rOrder_any 2 u v p q W (by omega) hu hv ⟨T4_2 m0, T4_2 d0⟩ ⟨T4_2 m1, T4_2 d1⟩)
      obtain ⟨o, ho⟩ : ∃ o, o = ordQ p q := ⟨_, rfl⟩
      rw [← ho] at HOR HVL
      have HKS := Lib.hid (show ∀ X, Below wr.heap.size wr X → (fun X => Below wr.heap.size wr X ∧ X.cell? ⟨w.heap.size, 0, none⟩ = some (.string S0) ∧ X.cell? ⟨w.heap.size, 1, none⟩ = some (.string S1) ∧ X.cell? ⟨w.heap.size, 2, none⟩ = some (.string S2) ∧ X.cell? ⟨w.heap.size, 3, none⟩ = some (.string S3)) X from fun X hX => by
        obtain ⟨e0, e1, e2, e3, _⟩ := HK.out X (below_next HBW.out hX)
        exact ⟨hX, e0, e1, e2, e3⟩)
      clear hsl k0 k1 d0 d1 m0 m1 hp hq ho hall hbw
      go_wp2_with fail
      go_region_held3 (fun X => Below wr.heap.size wr X ∧ X.cell? ⟨w.heap.size, 0, none⟩ = some (.string S0) ∧ X.cell? ⟨w.heap.size, 1, none⟩ = some (.string S1) ∧ X.cell? ⟨w.heap.size, 2, none⟩ = some (.string S2) ∧ X.cell? ⟨w.heap.size, 3, none⟩ = some (.string S3))
        (first
          | exact HKS.out _ (Below.refl _ wr).drew
          | (go_split_ands; refine HKS.out _ (below_next ?_ hb5); assumption)
          | (go_split_ands; refine HKS.out _ (below_next ?_ hb6); assumption)
          | (go_split_ands; refine HKS.out _ (below_next ?_ hb7); assumption))
        (first
          | (go_at_call 10; (with_reducible refine (HF1.out _).mono ?_); rintro e w5 ⟨v5, rfl, hv5, hb5⟩)
          | (go_at_call 10; (with_reducible refine (HF2.out _).mono ?_); rintro e w6 ⟨v6, rfl, hv6, hb6⟩)
          | (go_at_call 9; (with_reducible refine (HOR.out w6 v5 v6 (hv5.on hb6) hv6).mono ?_); rintro e w7 ⟨rfl, hb7⟩))
      have hbl : Below wr.heap.size wr w7 := by go_split_ands; assumption
      have HBF := Lib.hid (below_next HST0.out.below (below_next HBW.out hbl))
      clear hbl hb5 hb6 hb7 hv5 hv6
      by_cases hle : 0 ≤ o
      · have t1 : decide (0 ≤ o) = true := decide_eq_true hle
        have HV := Lib.hid (show V = 10 by rw [HVL.out, if_pos hle])
        go_wp2
        go_ret
        exact ⟨by rw [HV.out]; rfl, HBF.out⟩
      · have t1 : decide (0 ≤ o) = false := decide_eq_false hle
        have HV := Lib.hid (show V = 0 by rw [HVL.out, if_neg hle])
        go_wp2
        go_ret
        exact ⟨by rw [HV.out]; rfl, HBF.out⟩
end Go.Proofs.YtlkjgjojahjapaaGreatDoor

/- Maps of integers to integers of one's own (map[int]int): what they hold, and loops over them. -/
namespace Go.Proofs.YtlkjgjojahjapaaGreatDoor
open Go Go.RowKit Go.Proofs Go.Maps

theorem lawZ : Keyed Tryz.prog 3 := int_keyed Tryz.underlying3
/-- block m is a map[int]int of at most n entries that holds f, with keys from -B to B -/
def MapZ (w : World) (m n : Nat) (B : Int) (f : Int → Int) : Prop :=
  ∃ D : DataW Unit, w.ownsMap Tryz.prog 3 (plainElem Tryz.prog 3) m n D ∧ (∀ x, (Lit.int .i64 x).wf = true → D.atKey (.int .i64 x) (.lit (.int .i64 0)) = .lit (.int .i64 (f x))) ∧ ∀ x, has D (.int .i64 x) = true → -B ≤ x ∧ x ≤ B
theorem wfZ {x : Int} (h0 : -9223372036854775808 ≤ x) (h1 : x ≤ 9223372036854775807) : (Lit.int .i64 x).wf = true := by
  simp [Lit.wf, IntKind.min, IntKind.max, IntKind.signed, IntKind.bits]; omega
theorem MapZ.mono {w : World} {m n n' : Nat} {B B' : Int} {f : Int → Int} (h : MapZ w m n B f) (hn : n ≤ n') (hB : B ≤ B') : MapZ w m n' B' f := by
  obtain ⟨D, h1, h2, h3⟩ := h
  exact ⟨D, h1.mono hn, h2, fun x hx => by have := h3 x hx; omega⟩
theorem MapZ.fr {may : Nat → Prop} {w w' : World} {m n : Nat} {B : Int} {f : Int → Int} (h : MapZ w m n B f) (hf : Fr may w w') (hm : ¬ may m) : MapZ w' m n B f := by
  obtain ⟨D, h1, h2⟩ := h
  have hbl := h1.lt
  obtain ⟨es, clock, h3, h4⟩ := h1
  exact ⟨D, ⟨es, clock, (hf.block m hbl hm).trans h3, h4⟩, h2⟩
theorem MapZ.lt {w : World} {m n : Nat} {B : Int} {f : Int → Int} (h : MapZ w m n B f) : m < w.heap.size := by
  obtain ⟨D, h1, _⟩ := h; exact h1.lt
theorem MapZ.on {w w' : World} {m n : Nat} {B : Int} {f : Int → Int} (h : MapZ w m n B f) (hb : Below w.heap.size w w') : MapZ w' m n B f :=
  h.fr (Fr.of_below hb) (by have := h.lt; omega)
/-- a loop over such a map: iterator r, which keys have come, how many entries are to come -/
def RgZ (w : World) (m r n : Nat) (B : Int) (f : Int → Int) (done : Int → Bool) (cnt : Nat) : Prop :=
  ∃ (D : DataW Unit) (left : Lit → Bool), w.ranges Tryz.prog 3 (plainElem Tryz.prog 3) m r n D left cnt ∧ (∀ x, (Lit.int .i64 x).wf = true → D.atKey (.int .i64 x) (.lit (.int .i64 0)) = .lit (.int .i64 (f x))) ∧ (∀ x, has D (.int .i64 x) = true → -B ≤ x ∧ x ≤ B) ∧ ∀ x, left (.int .i64 x) = (has D (.int .i64 x) && !done x)
theorem RgZ.fr {may : Nat → Prop} {w w' : World} {m r n : Nat} {B : Int} {f : Int → Int} {done : Int → Bool} {cnt : Nat} (h : RgZ w m r n B f done cnt) (hf : Fr may w w') (hm : ¬ may m) (hr : ¬ may r) : RgZ w' m r n B f done cnt := by
  obtain ⟨D, left, h1, h2⟩ := h
  refine ⟨D, left, ?_, h2⟩
  have hrl := h1.lt
  have hbl := h1.owns.lt
  obtain ⟨es, clock, since, seen, c0, g1, g2, g3, g4, g5, g6⟩ := h1
  exact ⟨es, clock, since, seen, c0, (hf.block m hbl hm).trans g1, g2, g3, g4, (hf.block r hrl hr).trans g5, g6⟩
theorem RgZ.owns {w : World} {m r n : Nat} {B : Int} {f : Int → Int} {done : Int → Bool} {cnt : Nat} (h : RgZ w m r n B f done cnt) : MapZ w m n B f := by
  obtain ⟨D, left, h1, h2, h3, _⟩ := h
  exact ⟨D, h1.owns, h2, h3⟩
theorem RgZ.lt {w : World} {m r n : Nat} {B : Int} {f : Int → Int} {done : Int → Bool} {cnt : Nat} (h : RgZ w m r n B f done cnt) : m < w.heap.size ∧ r < w.heap.size ∧ r ≠ m := by
  obtain ⟨D, left, h1, _⟩ := h
  exact ⟨h1.owns.lt, h1.lt, h1.ne⟩
theorem RgZ.left {w : World} {m r n : Nat} {B : Int} {f : Int → Int} {done : Int → Bool} {cnt : Nat} (h : RgZ w m r n B f done cnt) : w.rangeLeft m r = cnt := by
  obtain ⟨D, left, h1, _⟩ := h
  exact h1.left_eq
section
variable {w : World} {ops : Array Oper} {rest : List Oper} {o : Oper} {a : Act} {Q : Exit → Act → World → Prop}
end
end Go.Proofs.YtlkjgjojahjapaaGreatDoor

/- Maps of integers to values of any type, of one's own: what they hold. -/
namespace Go.Proofs.YtlkjgjojahjapaaGreatDoor
open Go Go.RowKit Go.Proofs Go.Maps

/-- an element as it stands -/
def rawR (v : Value) : Option (DataW Value × List MemPlace) := some (.held v, [])
/-- block m is a map with integers as keys, of at most n entries, that holds f -/
def MapV (w : World) (m n : Nat) (f : Int → Option Value) : Prop :=
  ∃ D : DataW Value, w.ownsMap Tryz.prog 3 rawR m n D ∧ ∀ x, (Lit.int .i64 x).wf = true → has D (.int .i64 x) = (f x).isSome ∧ ∀ z, D.atKey (.int .i64 x) (.held z) = .held ((f x).getD z)
theorem held_inj {H : Type} {a b : H} (h : (DataW.held a : DataW H) = .held b) : a = b := by injection h
/-- f with v at x -/
def updV (f : Int → Option Value) (x : Int) (v : Value) : Int → Option Value := fun y => if y = x then some v else f y
theorem updV_same (f : Int → Option Value) (x : Int) (v : Value) : updV f x v x = some v := by unfold updV; rw [if_pos rfl]
theorem updV_other (f : Int → Option Value) {x y : Int} (v : Value) (h : y ≠ x) : updV f x v y = f y := by unfold updV; rw [if_neg h]
theorem mapV_made (w : World) : MapV (w.alloc (.map #[] 0)) w.heap.size 0 (fun _ => none) :=
  ⟨.map [], World.ownsMap_made _ _ _ _, fun _x _ => ⟨rfl, fun _ => rfl⟩⟩
theorem MapV.mono {w : World} {m n n' : Nat} {f : Int → Option Value} (h : MapV w m n f) (hn : n ≤ n') : MapV w m n' f := by
  obtain ⟨D, h1, h2⟩ := h
  exact ⟨D, h1.mono hn, h2⟩
theorem MapV.fr {may : Nat → Prop} {w w' : World} {m n : Nat} {f : Int → Option Value} (h : MapV w m n f) (hf : Fr may w w') (hm : ¬ may m) : MapV w' m n f := by
  obtain ⟨D, h1, h2⟩ := h
  have hbl := h1.lt
  obtain ⟨es, clock, h3, h4⟩ := h1
  exact ⟨D, ⟨es, clock, (hf.block m hbl hm).trans h3, h4⟩, h2⟩
theorem MapV.lt {w : World} {m n : Nat} {f : Int → Option Value} (h : MapV w m n f) : m < w.heap.size := by
  obtain ⟨D, h1, _⟩ := h; exact h1.lt
theorem MapV.on {w w' : World} {m n : Nat} {f : Int → Option Value} (h : MapV w m n f) (hb : Below w.heap.size w w') : MapV w' m n f :=
  h.fr (Fr.of_below hb) (by have := h.lt; omega)
theorem MapV.block {w : World} {m n : Nat} {f : Int → Option Value} (h : MapV w m n f) : ∃ es clock, w.heap[m]? = some (.map es clock) := by
  obtain ⟨D, ⟨es, clock, h1, _⟩, _⟩ := h
  exact ⟨es, clock, h1⟩
theorem isMapV {w : World} {m n : Nat} {D : DataW Value} {R : Value → Option (DataW Value × List MemPlace)} {P : Program} {k : TypeId} (h : w.ownsMap P k R m n D) : IsMap D := by
  obtain ⟨es, clock, _, _, _, hD⟩ := h; exact ⟨_, hD⟩
section
variable {t e : TypeId} (ht : Tryz.prog.underlying t = some (.map 3 e))
/-- the world behind 'm[x] = v' -/
noncomputable def putV (t : TypeId) (m : Nat) (x : Int) (v : Value) (w : World) : World :=
  match (Instr.mapUpdate t (.map (some m)) (.int .i64 x) v).run Tryz.prog w with | .ok _ w' => w' | _ => w
include ht
theorem putV_run {w : World} {m n : Nat} {f : Int → Option Value} (h : MapV w m n f) (hn : n < 10000000000000) (x : Int) (v : Value) (h0 : -9223372036854775808 ≤ x) (h1 : x ≤ 9223372036854775807) :
    (Instr.mapUpdate t (.map (some m)) (.int .i64 x) v).run Tryz.prog w = .ok () (putV t m x v w) ∧ MapV (putV t m x v w) m (n + 1) (updV f x v) ∧ w.grownBy (putV t m x v w) (some m) := by
  obtain ⟨D, hown, hD⟩ := h
  obtain ⟨w', hrun, g1, g2⟩ := hown.update (val := v) (d := .held v) (ps := []) lawZ ht (by unfold maxLen; omega) (keyOf_int_mk Tryz.underlying3 (wfZ h0 h1)) rfl
  have e : putV t m x v w = w' := by unfold putV; rw [hrun]
  rw [e]
  have hm := isMapV hown
  refine ⟨hrun, ⟨_, g1, fun y hy => ?_⟩, g2⟩
  by_cases e : y = x
  · subst e
    rw [updV_same]
    exact ⟨has_put_same (k := .int .i64 y) hm trivial _, fun z => atKey_put_same (k := .int .i64 y) hm trivial _ _⟩
  · rw [updV_other _ _ e]
    obtain ⟨q1, q2⟩ := hD y hy
    exact ⟨by rw [has_put_other (by simpa using e), q1], fun z => by rw [atKey_put_other (by simpa using e), q2]⟩
theorem lookV_run {w : World} {m n : Nat} {f : Int → Option Value} (h : MapV w m n f) (x : Int) (h0 : -9223372036854775808 ≤ x) (h1 : x ≤ 9223372036854775807) {z : Value} (hz : (zeroValue e).run Tryz.prog w = .ok z w) :
    (Instr.lookup t (.map (some m)) (.int .i64 x) false).run Tryz.prog w = .ok ((f x).getD z) w := by
  obtain ⟨D, hown, hD⟩ := h
  obtain ⟨c, ps, hrun, hv⟩ := hown.lookup (zd := .held z) (zp := []) lawZ ht hz rfl (keyOf_int_mk Tryz.underlying3 (wfZ h0 h1))
  have h2 : (DataW.held c : DataW Value) = _ := congrArg Prod.fst (Option.some.inj hv)
  have : c = (f x).getD z := held_inj (h2.trans ((hD x (wfZ h0 h1)).2 z))
  rw [hrun, this]
theorem lookV_ok {w : World} {m n : Nat} {f : Int → Option Value} (h : MapV w m n f) (x : Int) (h0 : -9223372036854775808 ≤ x) (h1 : x ≤ 9223372036854775807) {z : Value} (hz : (zeroValue e).run Tryz.prog w = .ok z w) :
    (Instr.lookup t (.map (some m)) (.int .i64 x) true).run Tryz.prog w = .ok (.tuple #[(f x).getD z, .bool (f x).isSome]) w := by
  obtain ⟨D, hown, hD⟩ := h
  obtain ⟨c, ps, hrun, hv⟩ := hown.look_ok (zd := .held z) (zp := []) lawZ ht hz rfl (keyOf_int_mk Tryz.underlying3 (wfZ h0 h1))
  have h2 : (DataW.held c : DataW Value) = _ := congrArg Prod.fst (Option.some.inj hv)
  have : c = (f x).getD z := held_inj (h2.trans ((hD x (wfZ h0 h1)).2 z))
  rw [hrun, this, (hD x (wfZ h0 h1)).1]
end
end Go.Proofs.YtlkjgjojahjapaaGreatDoor

/- Maps of integers to numbers of package nat (map[int]nat.Nat), of one's own. -/
namespace Go.Proofs.YtlkjgjojahjapaaGreatDoor
open Go Go.RowKit Go.Proofs Go.Maps

theorem zeroNN (w : World) : (zeroValue 69).run Tryz.prog w = .ok (.slice none 0 0) w := by kernel_rfl
theorem NatR.apartM {w : World} {A : Option Addr} {c x B clock : Nat} {l : List Nat} {es : Array MapEntry} (h : NatR w A c l x) (hB : w.heap[B]? = some (.map es clock)) : ∀ b o, A = some ⟨b, o, none⟩ → 0 < l.length → b ≠ B := by
  intro b o e hl hb
  subst hb
  obtain ⟨b', o', e', _, hlt, hc⟩ := h.rd.2 hl
  rw [e] at e'
  simp only [Option.some.injEq, Addr.mk.injEq, and_true] at e'
  obtain ⟨rfl, rfl⟩ := e'
  have hu : (u64s l)[0]? = some ((u64s l)[0]'(by rw [u64s_length]; exact hl)) := List.getElem?_eq_getElem _
  have h1 := hc 0 _ hu
  unfold World.cell? at h1
  simp [hB] at h1
theorem upN_same (f : Nat → Nat) (k x : Nat) : upN f k x k = x := by unfold upN; rw [if_pos rfl]
theorem upN_other (f : Nat → Nat) {k j : Nat} (x : Nat) (h : j ≠ k) : upN f k x j = f j := by unfold upN; rw [if_neg h]
/-- block m is such a map, of at most N entries; what is not there counts as 0 -/
def NMap (w : World) (m N : Nat) (f : Nat → Nat) : Prop := ∃ g, MapV w m N g ∧ ∀ k : Nat, (g (k : Int) = none ∧ f k = 0) ∨ ∃ A c l, g (k : Int) = some (.slice A (l : List Nat).length c) ∧ NatR w A c l (f k)
theorem NMap.lt {w : World} {m N : Nat} {f : Nat → Nat} (h : NMap w m N f) : m < w.heap.size := by obtain ⟨g, h1, _⟩ := h; exact h1.lt
theorem NMap.block {w : World} {m N : Nat} {f : Nat → Nat} (h : NMap w m N f) : ∃ es clock, w.heap[m]? = some (.map es clock) := by obtain ⟨g, h1, _⟩ := h; exact h1.block
theorem NMap.on {w w' : World} {m N : Nat} {f : Nat → Nat} (h : NMap w m N f) (hb : Below w.heap.size w w') : NMap w' m N f := by
  obtain ⟨g, h1, h2⟩ := h
  refine ⟨g, h1.on hb, fun k => ?_⟩
  rcases h2 k with h3 | ⟨A, c, l, h3, h4⟩
  · exact .inl h3
  · exact .inr ⟨A, c, l, h3, h4.on hb⟩
theorem NMap.made (w : World) : NMap (w.alloc (.map #[] 0)) w.heap.size 0 (fun _ => 0) := ⟨fun _ => none, mapV_made w, fun _ => .inl ⟨rfl, rfl⟩⟩
theorem NMap.mono {w : World} {m N N' : Nat} {f : Nat → Nat} (h : NMap w m N f) (hn : N ≤ N') : NMap w m N' f := by
  obtain ⟨g, h1, h2⟩ := h
  exact ⟨g, h1.mono hn, h2⟩
/-- a store into another map -/
theorem NatR.frM {w w' : World} {m : Nat} {A : Option Addr} {c x : Nat} {l : List Nat} (h : NatR w A c l x) (hm : ∃ es clock, w.heap[m]? = some (.map es clock)) (hf : Fr (fun i => i = m) w w') : NatR w' A c l x := by
  obtain ⟨es, clock, hB⟩ := hm
  exact h.keepB hf.size fun b o e hb hl => hf.block b hb (h.apartM hB b o e hl)
theorem NMap.frM {w w' : World} {m m' N : Nat} {f : Nat → Nat} (h : NMap w m N f) (hm : ∃ es clock, w.heap[m']? = some (.map es clock)) (hf : Fr (fun i => i = m') w w') (hne : m ≠ m') : NMap w' m N f := by
  obtain ⟨g, h1, h2⟩ := h
  refine ⟨g, h1.fr hf hne, fun k => ?_⟩
  rcases h2 k with h3 | ⟨A, c, l, h3, h4⟩
  · exact .inl h3
  · exact .inr ⟨A, c, l, h3, h4.frM hm hf⟩
theorem NMap.put {w : World} {m N : Nat} {f : Nat → Nat} (h : NMap w m N f) (hN : N < 10000000000000) (k : Nat) (hk : k ≤ 1000000000) (A : Option Addr) (c x : Nat) (l : List Nat) (hx : NatR w A c l x) :
    (Instr.mapUpdate 131 (.map (some m)) (.int .i64 (k : Int)) (.slice A l.length c)).run Tryz.prog w = .ok () (putV 131 m (k : Int) (.slice A l.length c) w) ∧ NMap (putV 131 m (k : Int) (.slice A l.length c) w) m (N + 1) (upN f k x) ∧ Fr (fun i => i = m) w (putV 131 m (k : Int) (.slice A l.length c) w) := by
  have hb := h.block
  obtain ⟨g, h1, h2⟩ := h
  obtain ⟨r1, r2, r3⟩ := putV_run Tryz.underlying131 h1 hN (k : Int) (.slice A l.length c) (by omega) (by omega)
  have hf : Fr (fun i => i = m) w (putV 131 m (k : Int) (.slice A l.length c) w) := (Fr.of_grown r3).mono fun i _ h => by simpa using h
  refine ⟨r1, ⟨_, r2, fun j => ?_⟩, hf⟩
  by_cases hj : j = k
  · subst hj
    rw [updV_same, upN_same]
    exact .inr ⟨A, c, l, rfl, hx.frM hb hf⟩
  · rw [updV_other _ _ (by omega), upN_other _ _ hj]
    rcases h2 j with h3 | ⟨A', c', l', h3, h4⟩
    · exact .inl h3
    · exact .inr ⟨A', c', l', h3, h4.frM hb hf⟩
theorem NMap.look {w : World} {m N : Nat} {f : Nat → Nat} (h : NMap w m N f) (k : Nat) (hk : k ≤ 1000000000) :
    ∃ A c l, NatR w A c l (f k) ∧ ∀ X, Below w.heap.size w X → (Instr.lookup 131 (.map (some m)) (.int .i64 (k : Int)) false).run Tryz.prog X = .ok (.slice A (l : List Nat).length c) X := by
  obtain ⟨g, h1, h2⟩ := h
  have hl := fun X (hX : Below w.heap.size w X) => lookV_run Tryz.underlying131 (h1.on hX) (k : Int) (by omega) (by omega) (zeroNN X)
  rcases h2 k with ⟨h3, h4⟩ | ⟨A, c, l, h3, h4⟩
  · rw [h4]
    rw [h3] at hl
    exact ⟨none, 0, [], natr_nil w, hl⟩
  · rw [h3] at hl
    exact ⟨A, c, l, h4, hl⟩
theorem NMap.look_ok {w : World} {m N : Nat} {f : Nat → Nat} (h : NMap w m N f) (k : Nat) (hk : k ≤ 1000000000) :
    ∃ A c l b, NatR w A c l (f k) ∧ (b = false → f k = 0) ∧ ∀ X, Below w.heap.size w X → (Instr.lookup 131 (.map (some m)) (.int .i64 (k : Int)) true).run Tryz.prog X = .ok (.tuple #[.slice A (l : List Nat).length c, .bool b]) X := by
  obtain ⟨g, h1, h2⟩ := h
  have hl := fun X (hX : Below w.heap.size w X) => lookV_ok Tryz.underlying131 (h1.on hX) (k : Int) (by omega) (by omega) (zeroNN X)
  rcases h2 k with ⟨h3, h4⟩ | ⟨A, c, l, h3, h4⟩
  · rw [h4]
    rw [h3] at hl
    exact ⟨none, 0, [], false, natr_nil w, fun _ => rfl, hl⟩
  · rw [h3] at hl
    exact ⟨A, c, l, true, h4, (fun e => by cases e), hl⟩
end Go.Proofs.YtlkjgjojahjapaaGreatDoor
