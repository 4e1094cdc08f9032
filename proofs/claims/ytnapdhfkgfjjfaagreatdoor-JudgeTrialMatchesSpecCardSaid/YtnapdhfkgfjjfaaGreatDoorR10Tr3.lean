/- The reference's CheckTrial. Printed by gen_r10trl3.py. -/
import Derived.Test.YtnapdhfkgfjjfaaGreatDoorR10Tr2
import Derived.Test.YtnapdhfkgfjjfaaGreatDoorG16
namespace Go.Proofs.YtnapdhfkgfjjfaaGreatDoor
open Go Go.RowKit Go.Proofs

set_option maxHeartbeats 8000000 in
set_option maxRecDepth 100000 in
theorem rCheckTrial_any (S0 S1 S2 S3 S4 S5 S6 S7 : ByteArray) (w : World) (z0 : S0.size ≤ 9223372036854775800) (z1 : S1.size ≤ 9223372036854775800) (z2 : S2.size ≤ 9223372036854775800) (z3 : S3.size ≤ 9223372036854775800) (z4 : S4.size ≤ 9223372036854775800) (z5 : S5.size ≤ 9223372036854775800) (z6 : S6.size ≤ 9223372036854775800) (z7 : S7.size ≤ 9223372036854775800) :
    Calls Tryz.prog 26 #[.agg #[.string S0, .string S1, .string S2, .string S3, .string S4, .string S5, .string S6, .string S7]] w fun e w' => e = .returned (.int .i64 (trCode (TL S0 S1 S2 S3 S4 S5 S6 S7) (prQ (S0, S1)) (prQ (S2, S3)))) ∧ Below w.heap.size w w' := by
  obtain ⟨L, hL⟩ : ∃ L, L = TL S0 S1 S2 S3 S4 S5 S6 S7 := ⟨_, rfl⟩
  have HL := Lib.hid hL
  have HSR := Lib.hid (show ∀ (Sa Sb : ByteArray) (i : Nat), L[i]? = some (Sa, Sb) → ∀ W, Calls Tryz.prog 46 #[.agg #[.string Sa, .string Sb], .int .i64 0, .int .i64 1, .bool true] W fun e w' => e = .returned (.int .i64 (shC .between Sa.data.toList Sb.data.toList)) ∧ Below W.heap.size W w' from fun Sa Sb i hi W => by
    have hz : Sa.size ≤ 9223372036854775800 ∧ Sb.size ≤ 9223372036854775800 := by
      rw [hL] at hi
      unfold TL at hi
      rcases four_at hi with ⟨_, h⟩ | ⟨_, h⟩ | ⟨_, h⟩ | ⟨_, h⟩ <;> (simp only [Prod.mk.injEq] at h; obtain ⟨rfl, rfl⟩ := h; constructor <;> assumption)
    have h := rShortR_any Sa Sb _ _ 0 1 true W rfl rfl hz.1 hz.2 (by omega) (by omega) (by omega) (by omega)
    rw [show shR 0 1 true Sa.data.toList Sb.data.toList = shC .between Sa.data.toList Sb.data.toList from shR_eq .between _ _] at h
    exact h)
  obtain ⟨V, hV⟩ : ∃ V, V = trCode (TL S0 S1 S2 S3 S4 S5 S6 S7) (prQ (S0, S1)) (prQ (S2, S3)) := ⟨_, rfl⟩
  have HVE := Lib.hid (show V = trCode L (prQ (S0, S1)) (prQ (S2, S3)) from by rw [hV, hL])
  have HK0 := Lib.hid (show shL L = 0 → cRt S0.data.toList S1.data.toList = 0 ∧ cRt S2.data.toList S3.data.toList = 0 ∧ (prQ (S0, S1)).den < 1000000 ∧ (prQ (S2, S3)).den < 1000000 ∧ frN (prQ (S0, S1)) < 1000000 ∧ frN (prQ (S2, S3)) < 1000000 from fun h => by
    have hz : ∀ (j : Nat) (p : ByteArray × ByteArray), L[j]? = some p → shC .between p.1.data.toList p.2.data.toList = 0 := by
      intro j
      induction j using Nat.strongRecOn with
      | ind j ih =>
        intro p hp
        refine Classical.byContradiction fun hc => ?_
        have := shL_at hp (fun i q hi hq => ih i hi q hq) hc
        rw [h] at this
        exact hc this.symm
    have g0 := hz 0 (S0, S1) (by rw [hL]; rfl)
    have g1 := hz 1 (S2, S3) (by rw [hL]; rfl)
    have y0 := prQ_small g0
    have y1 := prQ_small g1
    exact ⟨(shC_zero g0).1, (shC_zero g1).1, y0.2.2.1, y1.2.2.1, by omega, by omega⟩)
  rw [← hV]
  obtain ⟨W0, hW0⟩ : ∃ W0, W0 = w.alloc (.cells #[.string S0, .string S1, .string S2, .string S3, .string S4, .string S5, .string S6, .string S7] 36) := ⟨_, rfl⟩
  have HST0 := Lib.hid (show St w W0 [(w.heap.size, .cells #[.string S0, .string S1, .string S2, .string S3, .string S4, .string S5, .string S6, .string S7] 36 (0, 0))] by rw [hW0]; exact (St.start w).alloc _ _ rfl)
  have HK := Lib.hid (show ∀ X, Below W0.heap.size W0 X → X.cell? ⟨w.heap.size, 0, none⟩ = some (.string S0) ∧ X.cell? ⟨w.heap.size, 1, none⟩ = some (.string S1) ∧ X.cell? ⟨w.heap.size, 2, none⟩ = some (.string S2) ∧ X.cell? ⟨w.heap.size, 3, none⟩ = some (.string S3) ∧ X.cell? ⟨w.heap.size, 4, none⟩ = some (.string S4) ∧ X.cell? ⟨w.heap.size, 5, none⟩ = some (.string S5) ∧ X.cell? ⟨w.heap.size, 6, none⟩ = some (.string S6) ∧ X.cell? ⟨w.heap.size, 7, none⟩ = some (.string S7) from fun X hX => ⟨(HST0.out.call hX).cell 0 0 rfl rfl, (HST0.out.call hX).cell 0 1 rfl rfl, (HST0.out.call hX).cell 0 2 rfl rfl, (HST0.out.call hX).cell 0 3 rfl rfl, (HST0.out.call hX).cell 0 4 rfl rfl, (HST0.out.call hX).cell 0 5 rfl rfl, (HST0.out.call hX).cell 0 6 rfl rfl, (HST0.out.call hX).cell 0 7 rfl rfl⟩)
  obtain ⟨p0, p1, p2, p3, p4, p5, p6, p7⟩ := HK.out W0 (Below.refl _ _)
  clear hL hV z0 z1 z2 z3 z4 z5 z6 z7
  go_enter Tryz.func26, Tryz.ntmps26
  go_wp2
  rw [← hW0]
  clear hW0
  go_loopw [15] (fun kv wr => ∃ i : Nat, kv = .int .i64 (i : Nat) ∧ i ≤ 4 ∧ (∀ (j : Nat) (p : ByteArray × ByteArray), j < i → L[j]? = some p → shC .between p.1.data.toList p.2.data.toList = 0) ∧ Below W0.heap.size W0 wr) (fun kv _ => 4 - (intOf kv).toNat)
  case atStart => exact ⟨0, rfl, by omega, fun j p hj => by omega, Below.refl _ _⟩
  case round =>
    obtain ⟨i, rfl, hi4, hall, hbw⟩ := hrel
    have HBW := Lib.hid hbw
    have HALL := Lib.hid hall
    clear p0 p1 p2 p3 p4 p5 p6 p7
    by_cases hlt : i < 4
    · have h4 : i = 0 ∨ i = 1 ∨ i = 2 ∨ i = 3 := by omega
      rcases h4 with rfl | rfl | rfl | rfl
      · have HP := Lib.hid (show L[0]? = some (S0, S1) from by rw [HL.out]; rfl)
        have HS := Lib.hid (fun W => HSR.out S0 S1 0 HP.out W)
        have HS2 := Lib.hid (show ∀ W, Calls Tryz.prog 46 #[.agg #[.string S0, .string S1], .int .i64 0, .int .i64 1, .bool true] W fun e w' => e = .returned (.int .i64 (shC .between S0.data.toList S1.data.toList)) ∧ Below W.heap.size W w' from HS.out)
        obtain ⟨cc, hcc⟩ : ∃ c, c = shC .between S0.data.toList S1.data.toList := ⟨_, rfl⟩
        rw [← hcc] at HS2
        have HCC := Lib.hid hcc
        obtain ⟨W1, hW1⟩ : ∃ W1, W1 = wr.alloc (.cells #[.string S0, .string S1] 31) := ⟨_, rfl⟩
        have HB1 := Lib.hid (show Below wr.heap.size wr W1 by rw [hW1]; exact (Below.refl _ wr).alloc (Nat.le_refl _) _)
        have hix : (Instr.index 103 (.agg #[.string S0, .string S1, .string S2, .string S3, .string S4, .string S5, .string S6, .string S7]) (.int .i64 0)).run Tryz.prog wr = .ok (.agg #[.string S0, .string S1]) wr := by kernel_rfl
        clear HS hcc hall hbw
        go_wp2_with fail
        rw [← hW1]
        clear hW1
        (with_reducible refine (HS2.out W1).mono ?_)
        rintro e w2 ⟨rfl, hb2⟩
        have HB2 := Lib.hid (below_next HBW.out (below_next HB1.out hb2))
        clear hb2
        by_cases hcz : cc = 0
        · have t1 : (cc != 0) = false := by rw [hcz]; rfl
          have HZ := Lib.hid hcz
          clear hcz
          go_wp2
          go_roundw
          case rel => exact ⟨0 + 1, by first | rfl | simp | go_num, by omega, fun j p hj hp => by
            rcases Nat.lt_or_ge j 0 with hl | hl
            · exact HALL.out j p hl hp
            · obtain rfl : j = 0 := by omega
              obtain rfl := Option.some.inj (HP.out.symm.trans hp)
              exact HCC.out.symm.trans HZ.out, HB2.out⟩
          case measure => first | (simp [intOf]; done) | (simp [intOf]; omega)
        · have t1 : (cc != 0) = true := by rw [bne_iff_ne]; exact hcz
          have HV := Lib.hid (show V = cc from by
            have h := shL_at HP.out HALL.out (by show shC .between S0.data.toList S1.data.toList ≠ 0; rw [← HCC.out]; exact hcz)
            have h2 : shL L = cc := by rw [h]; exact HCC.out.symm
            rw [HVE.out]; unfold trCode; rw [if_pos (by rw [h2]; exact hcz), h2])
          clear hcz
          go_wp2
          go_ret
          exact ⟨by rw [HV.out]; rfl, below_next HST0.out.below HB2.out⟩
      · have HP := Lib.hid (show L[1]? = some (S2, S3) from by rw [HL.out]; rfl)
        have HS := Lib.hid (fun W => HSR.out S2 S3 1 HP.out W)
        have HS2 := Lib.hid (show ∀ W, Calls Tryz.prog 46 #[.agg #[.string S2, .string S3], .int .i64 0, .int .i64 1, .bool true] W fun e w' => e = .returned (.int .i64 (shC .between S2.data.toList S3.data.toList)) ∧ Below W.heap.size W w' from HS.out)
        obtain ⟨cc, hcc⟩ : ∃ c, c = shC .between S2.data.toList S3.data.toList := ⟨_, rfl⟩
        rw [← hcc] at HS2
        have HCC := Lib.hid hcc
        obtain ⟨W1, hW1⟩ : ∃ W1, W1 = wr.alloc (.cells #[.string S2, .string S3] 31) := ⟨_, rfl⟩
        have HB1 := Lib.hid (show Below wr.heap.size wr W1 by rw [hW1]; exact (Below.refl _ wr).alloc (Nat.le_refl _) _)
        have hix : (Instr.index 103 (.agg #[.string S0, .string S1, .string S2, .string S3, .string S4, .string S5, .string S6, .string S7]) (.int .i64 1)).run Tryz.prog wr = .ok (.agg #[.string S2, .string S3]) wr := by kernel_rfl
        clear HS hcc hall hbw
        go_wp2_with fail
        rw [← hW1]
        clear hW1
        (with_reducible refine (HS2.out W1).mono ?_)
        rintro e w2 ⟨rfl, hb2⟩
        have HB2 := Lib.hid (below_next HBW.out (below_next HB1.out hb2))
        clear hb2
        by_cases hcz : cc = 0
        · have t1 : (cc != 0) = false := by rw [hcz]; rfl
          have HZ := Lib.hid hcz
          clear hcz
          go_wp2
          go_roundw
          case rel => exact ⟨1 + 1, by first | rfl | simp | go_num, by omega, fun j p hj hp => by
            rcases Nat.lt_or_ge j 1 with hl | hl
            · exact HALL.out j p hl hp
            · obtain rfl : j = 1 := by omega
              obtain rfl := Option.some.inj (HP.out.symm.trans hp)
              exact HCC.out.symm.trans HZ.out, HB2.out⟩
          case measure => first | (simp [intOf]; done) | (simp [intOf]; omega)
        · have t1 : (cc != 0) = true := by rw [bne_iff_ne]; exact hcz
          have HV := Lib.hid (show V = cc from by
            have h := shL_at HP.out HALL.out (by show shC .between S2.data.toList S3.data.toList ≠ 0; rw [← HCC.out]; exact hcz)
            have h2 : shL L = cc := by rw [h]; exact HCC.out.symm
            rw [HVE.out]; unfold trCode; rw [if_pos (by rw [h2]; exact hcz), h2])
          clear hcz
          go_wp2
          go_ret
          exact ⟨by rw [HV.out]; rfl, below_next HST0.out.below HB2.out⟩
      · have HP := Lib.hid (show L[2]? = some (S4, S5) from by rw [HL.out]; rfl)
        have HS := Lib.hid (fun W => HSR.out S4 S5 2 HP.out W)
        have HS2 := Lib.hid (show ∀ W, Calls Tryz.prog 46 #[.agg #[.string S4, .string S5], .int .i64 0, .int .i64 1, .bool true] W fun e w' => e = .returned (.int .i64 (shC .between S4.data.toList S5.data.toList)) ∧ Below W.heap.size W w' from HS.out)
        obtain ⟨cc, hcc⟩ : ∃ c, c = shC .between S4.data.toList S5.data.toList := ⟨_, rfl⟩
        rw [← hcc] at HS2
        have HCC := Lib.hid hcc
        obtain ⟨W1, hW1⟩ : ∃ W1, W1 = wr.alloc (.cells #[.string S4, .string S5] 31) := ⟨_, rfl⟩
        have HB1 := Lib.hid (show Below wr.heap.size wr W1 by rw [hW1]; exact (Below.refl _ wr).alloc (Nat.le_refl _) _)
        have hix : (Instr.index 103 (.agg #[.string S0, .string S1, .string S2, .string S3, .string S4, .string S5, .string S6, .string S7]) (.int .i64 2)).run Tryz.prog wr = .ok (.agg #[.string S4, .string S5]) wr := by kernel_rfl
        clear HS hcc hall hbw
        go_wp2_with fail
        rw [← hW1]
        clear hW1
        (with_reducible refine (HS2.out W1).mono ?_)
        rintro e w2 ⟨rfl, hb2⟩
        have HB2 := Lib.hid (below_next HBW.out (below_next HB1.out hb2))
        clear hb2
        by_cases hcz : cc = 0
        · have t1 : (cc != 0) = false := by rw [hcz]; rfl
          have HZ := Lib.hid hcz
          clear hcz
          go_wp2
          go_roundw
          case rel => exact ⟨2 + 1, by first | rfl | simp | go_num, by omega, fun j p hj hp => by
            rcases Nat.lt_or_ge j 2 with hl | hl
            · exact HALL.out j p hl hp
            · obtain rfl : j = 2 := by omega
              obtain rfl := Option.some.inj (HP.out.symm.trans hp)
              exact HCC.out.symm.trans HZ.out, HB2.out⟩
          case measure => first | (simp [intOf]; done) | (simp [intOf]; omega)
        · have t1 : (cc != 0) = true := by rw [bne_iff_ne]; exact hcz
          have HV := Lib.hid (show V = cc from by
            have h := shL_at HP.out HALL.out (by show shC .between S4.data.toList S5.data.toList ≠ 0; rw [← HCC.out]; exact hcz)
            have h2 : shL L = cc := by rw [h]; exact HCC.out.symm
            rw [HVE.out]; unfold trCode; rw [if_pos (by rw [h2]; exact hcz), h2])
          clear hcz
          go_wp2
          go_ret
          exact ⟨by rw [HV.out]; rfl, below_next HST0.out.below HB2.out⟩
      · have HP := Lib.hid (show L[3]? = some (S6, S7) from by rw [HL.out]; rfl)
        have HS := Lib.hid (fun W => HSR.out S6 S7 3 HP.out W)
        have HS2 := Lib.hid (show ∀ W, Calls Tryz.prog 46 #[.agg #[.string S6, .string S7], .int .i64 0, .int .i64 1, .bool true] W fun e w' => e = .returned (.int .i64 (shC .between S6.data.toList S7.data.toList)) ∧ Below W.heap.size W w' from HS.out)
        obtain ⟨cc, hcc⟩ : ∃ c, c = shC .between S6.data.toList S7.data.toList := ⟨_, rfl⟩
        rw [← hcc] at HS2
        have HCC := Lib.hid hcc
        obtain ⟨W1, hW1⟩ : ∃ W1, W1 = wr.alloc (.cells #[.string S6, .string S7] 31) := ⟨_, rfl⟩
        have HB1 := Lib.hid (show Below wr.heap.size wr W1 by rw [hW1]; exact (Below.refl _ wr).alloc (Nat.le_refl _) _)
        have hix : (Instr.index 103 (.agg #[.string S0, .string S1, .string S2, .string S3, .string S4, .string S5, .string S6, .string S7]) (.int .i64 3)).run Tryz.prog wr = .ok (.agg #[.string S6, .string S7]) wr := by kernel_rfl
        clear HS hcc hall hbw
        go_wp2_with fail
        rw [← hW1]
        clear hW1
        (with_reducible refine (HS2.out W1).mono ?_)
        rintro e w2 ⟨rfl, hb2⟩
        have HB2 := Lib.hid (below_next HBW.out (below_next HB1.out hb2))
        clear hb2
        by_cases hcz : cc = 0
        · have t1 : (cc != 0) = false := by rw [hcz]; rfl
          have HZ := Lib.hid hcz
          clear hcz
          go_wp2
          go_roundw
          case rel => exact ⟨3 + 1, by first | rfl | simp | go_num, by omega, fun j p hj hp => by
            rcases Nat.lt_or_ge j 3 with hl | hl
            · exact HALL.out j p hl hp
            · obtain rfl : j = 3 := by omega
              obtain rfl := Option.some.inj (HP.out.symm.trans hp)
              exact HCC.out.symm.trans HZ.out, HB2.out⟩
          case measure => first | (simp [intOf]; done) | (simp [intOf]; omega)
        · have t1 : (cc != 0) = true := by rw [bne_iff_ne]; exact hcz
          have HV := Lib.hid (show V = cc from by
            have h := shL_at HP.out HALL.out (by show shC .between S6.data.toList S7.data.toList ≠ 0; rw [← HCC.out]; exact hcz)
            have h2 : shL L = cc := by rw [h]; exact HCC.out.symm
            rw [HVE.out]; unfold trCode; rw [if_pos (by rw [h2]; exact hcz), h2])
          clear hcz
          go_wp2
          go_ret
          exact ⟨by rw [HV.out]; rfl, below_next HST0.out.below HB2.out⟩
    · obtain rfl : i = 4 := by omega
      have hsl : shL L = 0 := shL_all fun j p hp => hall j p (by have := (List.getElem?_eq_some_iff.1 hp).1; rw [HL.out] at this; exact this) hp
      obtain ⟨k0, k1, d0, d1, m0, m1⟩ := HK0.out hsl
      have HF1 := Lib.hid (fun W => rFrom_any S0 S1 _ _ W rfl rfl k0)
      have HF2 := Lib.hid (fun W => rFrom_any S2 S3 _ _ W rfl rfl k1)
      have HVL := Lib.hid (show V = if 0 ≤ ordQ (prQ (S0, S1)) (prQ (S2, S3)) then 10 else 0 from by rw [HVE.out]; unfold trCode; rw [if_neg (by rw [hsl]; decide)])
      rw [show ratX S0.data.toList S1.data.toList = prQ (S0, S1) from rfl] at HF1
      rw [show ratX S2.data.toList S3.data.toList = prQ (S2, S3) from rfl] at HF2
      obtain ⟨p, hp⟩ : ∃ q, q = prQ (S0, S1) := ⟨_, rfl⟩
      obtain ⟨q, hq⟩ : ∃ r, r = prQ (S2, S3) := ⟨_, rfl⟩
      rw [← hp] at HF1 HVL d0 m0
      rw [← hq] at HF2 HVL d1 m1
      have HOR := Lib.hid (fun W u v (hu : FracR W u p) (hv : FracR W v q) => rOrder_any 2 u v p q W (by omega) hu hv ⟨T4_2 m0, T4_2 d0⟩ ⟨T4_2 m1, T4_2 d1⟩)
      obtain ⟨o, ho⟩ : ∃ o, o = ordQ p q := ⟨_, rfl⟩
      rw [← ho] at HOR HVL
      have HKS := Lib.hid (show ∀ X, Below wr.heap.size wr X → (fun X => Below wr.heap.size wr X ∧ X.cell? ⟨w.heap.size, 0, none⟩ = some (.string S0) ∧ X.cell? ⟨w.heap.size, 1, none⟩ = some (.string S1) ∧ X.cell? ⟨w.heap.size, 2, none⟩ = some (.string S2) ∧ X.cell? ⟨w.heap.size, 3, none⟩ = some (.string S3)) X from fun X hX => by
        obtain ⟨e0, e1, e2, e3, _⟩ := HK.out X (below_next HBW.out hX)
        exact ⟨hX, e0, e1, e2, e3⟩)
      clear hsl k0 k1 d0 d1 m0 m1 hp hq ho hall hbw
      go_wp2_with fail
      go_region_held3 (fun X => Below wr.heap.size wr X ∧ X.cell? ⟨w.heap.size, 0, none⟩ = some (.string S0) ∧ X.cell? ⟨w.heap.size, 1, none⟩ = some (.string S1) ∧ X.cell? ⟨w.heap.size, 2, none⟩ = some (.string S2) ∧ X.cell? ⟨w.heap.size, 3, none⟩ = some (.string S3))
        (first
          | exact HKS.out _ (Below.refl _ wr).drew
          | (go_split_ands; refine HKS.out _ (below_next ?_ hb5); assumption)
          | (go_split_ands; refine HKS.out _ (below_next ?_ hb6); assumption)
          | (go_split_ands; refine HKS.out _ (below_next ?_ hb7); assumption))
        (first
          | (go_at_call 21; (with_reducible refine (HF1.out _).mono ?_); rintro e w5 ⟨v5, rfl, hv5, hb5⟩)
          | (go_at_call 21; (with_reducible refine (HF2.out _).mono ?_); rintro e w6 ⟨v6, rfl, hv6, hb6⟩)
          | (go_at_call 20; (with_reducible refine (HOR.out w6 v5 v6 (hv5.on hb6) hv6).mono ?_); rintro e w7 ⟨rfl, hb7⟩))
      have hbl : Below wr.heap.size wr w7 := by go_split_ands; assumption
      have HBF := Lib.hid (below_next HST0.out.below (below_next HBW.out hbl))
      clear hbl hb5 hb6 hb7 hv5 hv6
      by_cases hle : 0 ≤ o
      · have t1 : decide (0 ≤ o) = true := decide_eq_true hle
        have HV := Lib.hid (show V = 10 by rw [HVL.out, if_pos hle])
        go_wp2
        go_ret
        exact ⟨by rw [HV.out]; rfl, HBF.out⟩
      · have t1 : decide (0 ≤ o) = false := decide_eq_false hle
        have HV := Lib.hid (show V = 0 by rw [HVL.out, if_neg hle])
        go_wp2
        go_ret
        exact ⟨by rw [HV.out]; rfl, HBF.out⟩
end Go.Proofs.YtnapdhfkgfjjfaaGreatDoor
