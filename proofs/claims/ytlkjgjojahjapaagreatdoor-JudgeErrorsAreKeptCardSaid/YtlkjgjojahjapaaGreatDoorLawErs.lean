/- JudgeErrorsAreKept: the law's walk. Printed by gen_lawers.py. -/
import Derived.Test.YtlkjgjojahjapaaGreatDoorG30
import Derived.Test.YtlkjgjojahjapaaGreatDoorR10Ers
import Derived.Test.YtlkjgjojahjapaaGreatDoorG23
import Derived.Test.YtlkjgjojahjapaaGreatDoorG44
namespace Go.Proofs.YtlkjgjojahjapaaGreatDoor
open Go Go.RowKit Go.Proofs

theorem fit_of {q : Rat} (h : rtC q = 0) : fitQ q = true ∧ rtT q = txtQ q := by
  unfold rtC at h
  split at h
  · rename_i hf; exact ⟨hf, by unfold rtT; rw [if_pos hf]⟩
  · exact absurd h (by decide)
theorem ord_le {a b : Rat} (h : a ≤ b) : ordQ a b = -1 ∨ ordQ a b = 0 := by
  unfold ordQ
  by_cases h1 : a < b
  · rw [if_pos h1]; exact .inl rfl
  · rw [if_neg h1]
    by_cases h2 : a = b
    · rw [if_pos h2]; exact .inr rfl
    · exact absurd (Rat.lt_iff_le_and_ne.2 ⟨h, h2⟩) h1
section
variable {L : List (ByteArray × ByteArray)} {p q r0 r1 : Rat} {n : Int}
theorem ersV_cases : (∃ k : Int, k ≠ 0 ∧ ersV L p q r0 r1 n = .tuple #[ratZ, ratZ, .int .i64 k]) ∨ (trCode L p q = 0 ∧ ¬ (n < 0 ∨ 40 < n) ∧ rtC (errQ p q r0 r1 p 2 n.toNat) = 0 ∧ rtC (errQ p q r0 r1 q 1 n.toNat) = 0 ∧ ersV L p q r0 r1 n = .tuple #[ratOf (rtT (errQ p q r0 r1 p 2 n.toNat)), ratOf (rtT (errQ p q r0 r1 q 1 n.toNat)), .int .i64 0]) := by
  by_cases h1 : trCode L p q = 0
  · by_cases h2 : n < 0 ∨ 40 < n
    · exact .inl ⟨9, by decide, ersV_rng h1 h2⟩
    · by_cases h3 : rtC (errQ p q r0 r1 p 2 n.toNat) = 0
      · by_cases h4 : rtC (errQ p q r0 r1 q 1 n.toNat) = 0
        · exact .inr ⟨h1, h2, h3, h4, ersV_ok h1 h2 h3 h4⟩
        · exact .inl ⟨_, h4, ersV_two h1 h2 h3 h4⟩
      · exact .inl ⟨_, h3, ersV_one h1 h2 h3⟩
  · exact .inl ⟨_, h1, ersV_tr h1⟩
end
set_option maxHeartbeats 8000000 in
set_option maxRecDepth 100000 in
theorem lawErs_any (S0 S1 S2 S3 S4 S5 S6 S7 : ByteArray) (n : Int) (w : World) (htab : Tab w.heap.size w) (z0 : S0.size ≤ 9223372036854775800) (z1 : S1.size ≤ 9223372036854775800) (z2 : S2.size ≤ 9223372036854775800) (z3 : S3.size ≤ 9223372036854775800) (z4 : S4.size ≤ 9223372036854775800) (z5 : S5.size ≤ 9223372036854775800) (z6 : S6.size ≤ 9223372036854775800) (z7 : S7.size ≤ 9223372036854775800) :
    Calls Tryz.prog 3 #[.agg #[.string S0, .string S1, .string S2, .string S3, .string S4, .string S5, .string S6, .string S7], .int .i64 n] w fun e w' => e = .returned (.bool true) ∧ Below w.heap.size w w' := by
  have HH := Lib.hid (fun W (hW : Below w.heap.size w W) => halves_any W ((htab.on hW).mono hW.size))
  have HJ := Lib.hid (fun W (hW : Below w.heap.size w W) => jErrors_any S0 S1 S2 S3 S4 S5 S6 S7 n W z0 z1 z2 z3 z4 z5 z6 z7 ((htab.on hW).mono hW.size))
  have HR := Lib.hid (fun W (hW : Below w.heap.size w W) => rErrors_any S0 S1 S2 S3 S4 S5 S6 S7 n W z0 z1 z2 z3 z4 z5 z6 z7 ((htab.on hW).mono hW.size))
  obtain ⟨W0, hW0⟩ : ∃ W0, W0 = w.alloc (.cells #[.string S0, .string S1, .string S2, .string S3, .string S4, .string S5, .string S6, .string S7] 25) := ⟨_, rfl⟩
  have HST0 := Lib.hid (show St w W0 [(w.heap.size, .cells #[.string S0, .string S1, .string S2, .string S3, .string S4, .string S5, .string S6, .string S7] 25 (0, 0))] by rw [hW0]; exact (St.start w).alloc _ _ rfl)
  have HK := Lib.hid (show ∀ X, Below W0.heap.size W0 X → X.cell? ⟨w.heap.size, 0, none⟩ = some (.string S0) ∧ X.cell? ⟨w.heap.size, 1, none⟩ = some (.string S1) ∧ X.cell? ⟨w.heap.size, 2, none⟩ = some (.string S2) ∧ X.cell? ⟨w.heap.size, 3, none⟩ = some (.string S3) ∧ X.cell? ⟨w.heap.size, 4, none⟩ = some (.string S4) ∧ X.cell? ⟨w.heap.size, 5, none⟩ = some (.string S5) ∧ X.cell? ⟨w.heap.size, 6, none⟩ = some (.string S6) ∧ X.cell? ⟨w.heap.size, 7, none⟩ = some (.string S7) from fun X hX => ⟨(HST0.out.call hX).cell 0 0 rfl rfl, (HST0.out.call hX).cell 0 1 rfl rfl, (HST0.out.call hX).cell 0 2 rfl rfl, (HST0.out.call hX).cell 0 3 rfl rfl, (HST0.out.call hX).cell 0 4 rfl rfl, (HST0.out.call hX).cell 0 5 rfl rfl, (HST0.out.call hX).cell 0 6 rfl rfl, (HST0.out.call hX).cell 0 7 rfl rfl⟩)
  obtain ⟨p0, p1, p2, p3, p4, p5, p6, p7⟩ := HK.out W0 (Below.refl _ _)
  rcases ersV_cases (L := TL S0 S1 S2 S3 S4 S5 S6 S7) (p := prQ (S0, S1)) (q := prQ (S2, S3)) (r0 := prQ (S4, S5)) (r1 := prQ (S6, S7)) (n := n) with ⟨k, hk, hv⟩ | ⟨h1, h2, h3, h4, hv⟩
  · rw [hv] at HJ HR
    unfold ratZ at HJ HR
    obtain ⟨T1, hT1⟩ : ∃ T : ByteArray, T = ⟨#[]⟩ := ⟨_, rfl⟩
    obtain ⟨T2, hT2⟩ : ∃ T : ByteArray, T = T1 := ⟨_, rfl⟩
    obtain ⟨T3, hT3⟩ : ∃ T : ByteArray, T = T1 := ⟨_, rfl⟩
    obtain ⟨T4, hT4⟩ : ∃ T : ByteArray, T = T1 := ⟨_, rfl⟩
    have HJ := Lib.hid (show ∀ W, Below w.heap.size w W → Calls _ _ _ W (fun e w' => e = .returned (.tuple #[.agg #[.string T1, .string T2], .agg #[.string T3, .string T4], .int .i64 k]) ∧ Below W.heap.size W w') from by rw [hT4, hT3, hT2, hT1]; exact HJ.out)
    have HR := Lib.hid (show ∀ W, Below w.heap.size w W → Calls _ _ _ W (fun e w' => e = .returned (.tuple #[.agg #[.string T1, .string T2], .agg #[.string T3, .string T4], .int .i64 k]) ∧ Below W.heap.size W w') from by rw [hT4, hT3, hT2, hT1]; exact HR.out)
    have t1 : (k == 0) = false := by rw [beq_eq_false_iff_ne]; exact hk
    clear hk hv hT1 hT2 hT3 hT4 htab z0 z1 z2 z3 z4 z5 z6 z7
    go_enter Tryz.func3, Tryz.ntmps3
    go_upto_region 1 with fail
    rw [← hW0]
    clear hW0
    go_wp2_with fail
    (with_reducible refine (HJ.out _ HST0.out.below).mono ?_)
    rintro e w1 ⟨rfl, hb1⟩
    obtain ⟨W2, hW2⟩ : ∃ W, W = (w1.alloc (.cells #[.string T1, .string T2] 23)).alloc (.cells #[.string T3, .string T4] 23) := ⟨_, rfl⟩
    have hst2 : St w1 W2 [(w1.heap.size, .cells #[.string T1, .string T2] 23 (0, 0)), (w1.heap.size + 1, .cells #[.string T3, .string T4] 23 (0, 0))] := by rw [hW2]; exact ((St.start w1).alloc _ _ rfl).alloc _ _ (by simp)
    have HA2 := Lib.hid (show Txt2 W2 w1.heap.size T1 T2 from hst2.at 0 rfl)
    have HC2 := Lib.hid (show Txt2 W2 (w1.heap.size + 1) T3 T4 from hst2.at 1 rfl)
    have HB02 := Lib.hid (below_next hb1 hst2.below)
    obtain ⟨p0, p1, p2, p3, p4, p5, p6, p7⟩ := HK.out W2 HB02.out
    obtain ⟨B5, hB5⟩ : ∃ B, B = w1.heap.size := ⟨_, rfl⟩
    rw [← hB5] at HA2 HC2
    rw [hW2] at p0 p1 p2 p3 p4 p5 p6 p7
    clear hb1 hst2
    go_wp2_with fail
    rw [← hW2, ← hB5]
    clear hW2 hB5 p0 p1 p2 p3 p4 p5 p6 p7
    (with_reducible refine (HR.out _ (below_next HST0.out.below HB02.out)).mono ?_)
    rintro e w3 ⟨rfl, hb3⟩
    obtain ⟨W4, hW4⟩ : ∃ W, W = (w3.alloc (.cells #[.string T1, .string T2] 23)).alloc (.cells #[.string T3, .string T4] 23) := ⟨_, rfl⟩
    have hst4 : St w3 W4 [(w3.heap.size, .cells #[.string T1, .string T2] 23 (0, 0)), (w3.heap.size + 1, .cells #[.string T3, .string T4] 23 (0, 0))] := by rw [hW4]; exact ((St.start w3).alloc _ _ rfl).alloc _ _ (by simp)
    have hb24 := below_next hb3 hst4.below
    have HA4 := Lib.hid (HA2.out.on hb24)
    have HC4 := Lib.hid (HC2.out.on hb24)
    have HE4 := Lib.hid (show Txt2 W4 w3.heap.size T1 T2 from hst4.at 0 rfl)
    have HG4 := Lib.hid (show Txt2 W4 (w3.heap.size + 1) T3 T4 from hst4.at 1 rfl)
    have HB04 := Lib.hid (below_next HB02.out hb24)
    have HBD := Lib.hid (below_next HST0.out.below HB04.out)
    obtain ⟨a0, a1, -, -, -⟩ := HA4.out.facts
    obtain ⟨c0, c1, -, -, -⟩ := HC4.out.facts
    obtain ⟨e0, e1, -, -, -⟩ := HE4.out.facts
    obtain ⟨g0, g1, -, -, -⟩ := HG4.out.facts
    rw [hW4] at a0 a1 c0 c1 e0 e1 g0 g1
    clear hb3 hst4 hb24
    go_wp2_with fail
    rw [← hW4]
    clear hW4 a0 a1 c0 c1 e0 e1 g0 g1
    (with_reducible refine (HH.out _ HBD.out).mono ?_)
    rintro e w5 ⟨rfl, hb5⟩
    have HB5 := Lib.hid (below_next HBD.out hb5)
    clear hb5
    go_wp2
    go_ret
    exact ⟨by rfl, HB5.out⟩
  · rw [hv] at HJ HR
    have hok := tr_ok h1
    obtain ⟨k0, k1, k2, k3⟩ := tr_cRt h1
    obtain ⟨hz, _⟩ := tr_zero h1
    have y2 := prQ_small (hz 2 (S4, S5) rfl)
    have y3 := prQ_small (hz 3 (S6, S7) rfl)
    obtain ⟨N, rfl⟩ : ∃ N : Nat, n = N := ⟨n.toNat, by omega⟩
    rw [Int.toNat_natCast] at h3 h4 HJ HR
    have hle1 := errQ_hi (r0 := prQ (S4, S5)) (r1 := prQ (S6, S7)) hok.g y2.2.2.2 N
    have hle2 := errQ_lo (r0 := prQ (S4, S5)) (r1 := prQ (S6, S7)) hok.g y3.2.2.2 N
    have hs1 := sz_err (prQ (S0, S1)) (prQ (S2, S3)) (prQ (S4, S5)) (prQ (S6, S7)) (prQ (S0, S1)) 2 N (by have := hok.g.p1; omega) hok.s.p0 (by omega) (.inr rfl)
    have hs2 := sz_err (prQ (S0, S1)) (prQ (S2, S3)) (prQ (S4, S5)) (prQ (S6, S7)) (prQ (S2, S3)) 1 N (by have := hok.g.q1; omega) hok.s.q0 (by omega) (.inl rfl)
    obtain ⟨e1, he1⟩ : ∃ e, e = errQ (prQ (S0, S1)) (prQ (S2, S3)) (prQ (S4, S5)) (prQ (S6, S7)) (prQ (S0, S1)) 2 N := ⟨_, rfl⟩
    obtain ⟨e2, he2⟩ : ∃ e, e = errQ (prQ (S0, S1)) (prQ (S2, S3)) (prQ (S4, S5)) (prQ (S6, S7)) (prQ (S2, S3)) 1 N := ⟨_, rfl⟩
    rw [← he1] at h3 hle1 hs1 HJ HR
    rw [← he2] at h4 hle2 hs2 HJ HR
    obtain ⟨f1, g1⟩ := fit_of h3
    obtain ⟨f2, g2⟩ := fit_of h4
    obtain ⟨m1, m2⟩ := txtQ_good f1
    obtain ⟨m3, m4⟩ := txtQ_good f2
    rw [g1, g2] at HJ HR
    obtain ⟨T1, hT1⟩ : ∃ T : ByteArray, T = ⟨(txtQ e1).1.toArray⟩ := ⟨_, rfl⟩
    obtain ⟨T2, hT2⟩ : ∃ T : ByteArray, T = ⟨(txtQ e1).2.toArray⟩ := ⟨_, rfl⟩
    obtain ⟨T3, hT3⟩ : ∃ T : ByteArray, T = ⟨(txtQ e2).1.toArray⟩ := ⟨_, rfl⟩
    obtain ⟨T4, hT4⟩ : ∃ T : ByteArray, T = ⟨(txtQ e2).2.toArray⟩ := ⟨_, rfl⟩
    rw [show ratOf (txtQ e1) = .agg #[.string T1, .string T2] by rw [hT1, hT2]; rfl, show ratOf (txtQ e2) = .agg #[.string T3, .string T4] by rw [hT3, hT4]; rfl] at HJ HR
    have HFA := Lib.hid (fun W => (show Calls Tryz.prog 10 #[.agg #[.string T1, .string T2]] W (FracPost e1 W) from by
      have h := rFrom_any T1 T2 (txtQ e1).1 (txtQ e1).2 W (by rw [hT1]) (by rw [hT2]) m1
      rwa [m2] at h))
    have HFB := Lib.hid (fun W => (show Calls Tryz.prog 10 #[.agg #[.string T3, .string T4]] W (FracPost e2 W) from by
      have h := rFrom_any T3 T4 (txtQ e2).1 (txtQ e2).2 W (by rw [hT3]) (by rw [hT4]) m3
      rwa [m4] at h))
    have HFR0 := Lib.hid (fun W => (show Calls Tryz.prog 10 #[.agg #[.string S4, .string S5]] W (FracPost (prQ (S4, S5)) W) from rFrom_any S4 S5 _ _ W rfl rfl k2))
    have HFR1 := Lib.hid (fun W => (show Calls Tryz.prog 10 #[.agg #[.string S6, .string S7]] W (FracPost (prQ (S6, S7)) W) from rFrom_any S6 S7 _ _ W rfl rfl k3))
    have hsr0 : Sz 100000 (prQ (S4, S5)) := Sz.mono (n := 2) ⟨T4_small (by omega) (by omega), T4_small (by omega) (by omega)⟩ (by omega)
    have hsr1 : Sz 100000 (prQ (S6, S7)) := Sz.mono (n := 2) ⟨T4_small (by omega) (by omega), T4_small (by omega) (by omega)⟩ (by omega)
    have HO1 := Lib.hid (fun W u v (hu : FracR W u e1) (hv : FracR W v (prQ (S4, S5))) => rOrder_any 100000 u v _ _ W (by omega) hu hv hs1 hsr0)
    have HO2 := Lib.hid (fun W u v (hu : FracR W u e2) (hv : FracR W v (prQ (S6, S7))) => rOrder_any 100000 u v _ _ W (by omega) hu hv hs2 hsr1)
    have ho1 := ord_le hle1
    have ho2 := ord_le hle2
    obtain ⟨k5, hk5⟩ : ∃ k, k = ordQ e1 (prQ (S4, S5)) := ⟨_, rfl⟩
    obtain ⟨k6, hk6⟩ : ∃ k, k = ordQ e2 (prQ (S6, S7)) := ⟨_, rfl⟩
    rw [← hk5] at HO1 ho1
    rw [← hk6] at HO2 ho2
    clear h1 h2 h3 h4 hv hok k0 k1 k2 k3 hz y2 y3 hle1 hle2 hs1 hs2 he1 he2 f1 g1 f2 g2 m1 m2 m3 m4 hT1 hT2 hT3 hT4 hsr0 hsr1 hk5 hk6 htab z0 z1 z2 z3 z4 z5 z6 z7
    go_enter Tryz.func3, Tryz.ntmps3
    go_upto_region 1 with fail
    rw [← hW0]
    clear hW0
    go_wp2_with fail
    (with_reducible refine (HJ.out _ HST0.out.below).mono ?_)
    rintro e w1 ⟨rfl, hb1⟩
    obtain ⟨W2, hW2⟩ : ∃ W, W = (w1.alloc (.cells #[.string T1, .string T2] 23)).alloc (.cells #[.string T3, .string T4] 23) := ⟨_, rfl⟩
    have hst2 : St w1 W2 [(w1.heap.size, .cells #[.string T1, .string T2] 23 (0, 0)), (w1.heap.size + 1, .cells #[.string T3, .string T4] 23 (0, 0))] := by rw [hW2]; exact ((St.start w1).alloc _ _ rfl).alloc _ _ (by simp)
    have HA2 := Lib.hid (show Txt2 W2 w1.heap.size T1 T2 from hst2.at 0 rfl)
    have HC2 := Lib.hid (show Txt2 W2 (w1.heap.size + 1) T3 T4 from hst2.at 1 rfl)
    have HB02 := Lib.hid (below_next hb1 hst2.below)
    obtain ⟨p0, p1, p2, p3, p4, p5, p6, p7⟩ := HK.out W2 HB02.out
    obtain ⟨B5, hB5⟩ : ∃ B, B = w1.heap.size := ⟨_, rfl⟩
    rw [← hB5] at HA2 HC2
    rw [hW2] at p0 p1 p2 p3 p4 p5 p6 p7
    clear hb1 hst2
    go_wp2_with fail
    rw [← hW2, ← hB5]
    clear hW2 hB5 p0 p1 p2 p3 p4 p5 p6 p7
    (with_reducible refine (HR.out _ (below_next HST0.out.below HB02.out)).mono ?_)
    rintro e w3 ⟨rfl, hb3⟩
    obtain ⟨W4, hW4⟩ : ∃ W, W = (w3.alloc (.cells #[.string T1, .string T2] 23)).alloc (.cells #[.string T3, .string T4] 23) := ⟨_, rfl⟩
    have hst4 : St w3 W4 [(w3.heap.size, .cells #[.string T1, .string T2] 23 (0, 0)), (w3.heap.size + 1, .cells #[.string T3, .string T4] 23 (0, 0))] := by rw [hW4]; exact ((St.start w3).alloc _ _ rfl).alloc _ _ (by simp)
    have hb24 := below_next hb3 hst4.below
    have HA4 := Lib.hid (HA2.out.on hb24)
    have HC4 := Lib.hid (HC2.out.on hb24)
    have HE4 := Lib.hid (show Txt2 W4 w3.heap.size T1 T2 from hst4.at 0 rfl)
    have HG4 := Lib.hid (show Txt2 W4 (w3.heap.size + 1) T3 T4 from hst4.at 1 rfl)
    have HB04 := Lib.hid (below_next HB02.out hb24)
    have HBD := Lib.hid (below_next HST0.out.below HB04.out)
    obtain ⟨a0, a1, -, -, -⟩ := HA4.out.facts
    obtain ⟨c0, c1, -, -, -⟩ := HC4.out.facts
    obtain ⟨e0, e1, -, -, -⟩ := HE4.out.facts
    obtain ⟨g0, g1, -, -, -⟩ := HG4.out.facts
    rw [hW4] at a0 a1 c0 c1 e0 e1 g0 g1
    clear hb3 hst4 hb24
    obtain ⟨wd, hwd⟩ : ∃ W : World, W = W4 := ⟨_, rfl⟩
    have HKS := Lib.hid (show ∀ X, Below wd.heap.size wd X → (fun X => Below wd.heap.size wd X ∧ X.cell? ⟨B5, 0, none⟩ = some (.string T1) ∧ X.cell? ⟨B5, 1, none⟩ = some (.string T2) ∧ X.cell? ⟨B5 + 1, 0, none⟩ = some (.string T3) ∧ X.cell? ⟨B5 + 1, 1, none⟩ = some (.string T4) ∧ X.cell? ⟨w.heap.size, 4, none⟩ = some (.string S4) ∧ X.cell? ⟨w.heap.size, 5, none⟩ = some (.string S5) ∧ X.cell? ⟨w.heap.size, 6, none⟩ = some (.string S6) ∧ X.cell? ⟨w.heap.size, 7, none⟩ = some (.string S7)) X from fun X hX => by
      rw [hwd] at hX
      obtain ⟨a0, a1, -, -, -⟩ := (HA4.out.on hX).facts
      obtain ⟨c0, c1, -, -, -⟩ := (HC4.out.on hX).facts
      obtain ⟨-, -, -, -, p4, p5, p6, p7⟩ := HK.out X (below_next HB04.out hX)
      rw [← hwd] at hX
      exact ⟨hX, a0, a1, c0, c1, p4, p5, p6, p7⟩)
    have HBD := Lib.hid (show Below w.heap.size w wd by rw [hwd]; exact HBD.out)
    rw [← hwd] at hW4
    have HW4 := Lib.hid hW4
    clear hW4 hwd
    go_upto_region 6 with fail
    rw [← HW4.out]
    clear HW4 a0 a1 c0 c1 e0 e1 g0 g1
    rcases ho1 with rfl | rfl
    · rcases ho2 with rfl | rfl
      · skip
        refine wp_region_noPanic ?_
        refine wp_region_held_drew (S := (fun X => Below wd.heap.size wd X ∧ X.cell? ⟨B5, 0, none⟩ = some (.string T1) ∧ X.cell? ⟨B5, 1, none⟩ = some (.string T2) ∧ X.cell? ⟨B5 + 1, 0, none⟩ = some (.string T3) ∧ X.cell? ⟨B5 + 1, 1, none⟩ = some (.string T4) ∧ X.cell? ⟨w.heap.size, 4, none⟩ = some (.string S4) ∧ X.cell? ⟨w.heap.size, 5, none⟩ = some (.string S5) ∧ X.cell? ⟨w.heap.size, 6, none⟩ = some (.string S6) ∧ X.cell? ⟨w.heap.size, 7, none⟩ = some (.string S7))) (by kernel_rfl) (HKS.out _ (Below.refl _ wd).drew) (fun HS0 => ?_)
        have hbx0 : Below wd.heap.size wd wd.drew := (Below.refl _ _).drew
        obtain ⟨Xx0, hXx0⟩ : ∃ X, X = wd.drew := ⟨_, rfl⟩
        rw [← hXx0] at hbx0 HS0 ⊢
        have HBx0 := Lib.hid hbx0
        clear hbx0 hXx0
        refine wpAnyH_take (i := 0) (v := ?_) rfl (by kernel_rfl) (by kernel_rfl) (by kernel_rfl) (fun _ _ _ h => h) (Or.inl ⟨by rfl, ?_⟩) HS0 ?_
        rotate_left
        · intro W hW; (try dsimp only at hW); go_simp; try (with_reducible rfl)

        refine wpAnyH_take (i := 2) (v := ?_) rfl (by kernel_rfl) (by kernel_rfl) (by kernel_rfl) (fun _ _ _ h => h) (Or.inl ⟨by rfl, ?_⟩) HS0 ?_
        rotate_left
        · intro W hW; (try dsimp only at hW); go_simp; try (with_reducible rfl)

        refine wpAnyH_take (i := 3) (v := ?_) rfl (by kernel_rfl) (by kernel_rfl) (by kernel_rfl) (fun _ _ _ h => h) (Or.inl ⟨by rfl, ?_⟩) HS0 ?_
        rotate_left
        · intro W hW; (try dsimp only at hW); go_simp; try (with_reducible rfl)

        clear HS0
        refine run_one (i := 1) (by kernel_rfl) rfl rfl ?_
        intro K hK
        go_simp
        (with_reducible refine (HFA.out Xx0).mono ?_)
        rintro e Xx1 ⟨v1, rfl, hvx1, hbx1⟩
        have HBx1 := Lib.hid (below_next (HBx0.out) hbx1)
        refine hK.out _ _ (HKS.out _ HBx1.out) ?_
        clear hK K
        intro _

        refine run_one (i := 4) (by kernel_rfl) rfl rfl ?_
        intro K hK
        go_simp
        (with_reducible refine (HFR0.out Xx1).mono ?_)
        rintro e Xx2 ⟨v2, rfl, hvx2, hbx2⟩
        have HBx2 := Lib.hid (below_next (HBx1.out) hbx2)
        refine hK.out _ _ (HKS.out _ HBx2.out) ?_
        clear hK K
        intro _

        refine run_one (i := 5) (by kernel_rfl) rfl rfl ?_
        intro K hK
        go_simp
        (with_reducible refine (HO1.out Xx2 _ _ ((hvx1).on hbx2) (hvx2)).mono ?_)
        rintro e Xx3 ⟨rfl, hbx3⟩
        have HBx3 := Lib.hid (below_next (HBx2.out) hbx3)
        refine hK.out _ _ (HKS.out _ HBx3.out) ?_
        clear hK K
        intro _

        have HS0 := HKS.out _ (HBx3.out)
        refine wpAnyH_take (i := 6) (v := ?_) rfl (by kernel_rfl) (by kernel_rfl) (by kernel_rfl) (fun _ _ _ h => h) (Or.inl ⟨by rfl, ?_⟩) HS0 ?_
        rotate_left
        · intro W hW; (try dsimp only at hW); go_simp; try (with_reducible rfl)

        clear HS0
        have HS0 := HKS.out _ (HBx3.out)
        refine wpAnyH_take (i := 7) (v := ?_) rfl (by kernel_rfl) (by kernel_rfl) (by kernel_rfl) (fun _ _ _ h => h) (Or.inl ⟨by rfl, ?_⟩) HS0 ?_
        rotate_left
        · intro W hW; (try dsimp only at hW); go_simp; try (with_reducible rfl)

        clear HS0
        have HS0 := HKS.out _ (HBx3.out)
        refine wpAnyH_take (i := 8) (v := ?_) rfl (by kernel_rfl) (by kernel_rfl) (by kernel_rfl) (fun _ _ _ h => h) (Or.inl ⟨by rfl, ?_⟩) HS0 ?_
        rotate_left
        · intro W hW; (try dsimp only at hW); go_simp; try (with_reducible rfl)

        clear HS0
        have HS0 := HKS.out _ (HBx3.out)
        refine wpAnyH_take (i := 10) (v := ?_) rfl (by kernel_rfl) (by kernel_rfl) (by kernel_rfl) (fun _ _ _ h => h) (Or.inl ⟨by rfl, ?_⟩) HS0 ?_
        rotate_left
        · intro W hW; (try dsimp only at hW); go_simp; try (with_reducible rfl)

        clear HS0
        have HS0 := HKS.out _ (HBx3.out)
        refine wpAnyH_take (i := 11) (v := ?_) rfl (by kernel_rfl) (by kernel_rfl) (by kernel_rfl) (fun _ _ _ h => h) (Or.inl ⟨by rfl, ?_⟩) HS0 ?_
        rotate_left
        · intro W hW; (try dsimp only at hW); go_simp; try (with_reducible rfl)

        clear HS0
        refine run_oneG (i := 9) (by kernel_rfl) rfl (by rfl) ?_
        intro K hK
        go_simp
        (with_reducible refine (HFB.out Xx3).mono ?_)
        rintro e Xx4 ⟨v4, rfl, hvx4, hbx4⟩
        have HBx4 := Lib.hid (below_next (HBx3.out) hbx4)
        refine hK.out _ _ (HKS.out _ HBx4.out) ?_
        clear hK K
        intro _

        refine run_oneG (i := 12) (by kernel_rfl) rfl (by rfl) ?_
        intro K hK
        go_simp
        (with_reducible refine (HFR1.out Xx4).mono ?_)
        rintro e Xx5 ⟨v5, rfl, hvx5, hbx5⟩
        have HBx5 := Lib.hid (below_next (HBx4.out) hbx5)
        refine hK.out _ _ (HKS.out _ HBx5.out) ?_
        clear hK K
        intro _

        refine run_oneG (i := 13) (by kernel_rfl) rfl (by rfl) ?_
        intro K hK
        go_simp
        (with_reducible refine (HO2.out Xx5 _ _ ((hvx4).on hbx5) (hvx5)).mono ?_)
        rintro e Xx6 ⟨rfl, hbx6⟩
        have HBx6 := Lib.hid (below_next (HBx5.out) hbx6)
        refine hK.out _ _ (HKS.out _ HBx6.out) ?_
        clear hK K
        intro _

        have HS0 := HKS.out _ (HBx6.out)
        refine wpAnyH_take (i := 14) (v := ?_) rfl (by kernel_rfl) (by kernel_rfl) (by kernel_rfl) (fun _ _ _ h => h) (Or.inl ⟨by rfl, ?_⟩) HS0 ?_
        rotate_left
        · intro W hW; (try dsimp only at hW); go_simp; try (with_reducible rfl)

        clear HS0
        have HS0 := HKS.out _ (HBx6.out)
        refine wpAnyH_take (i := 15) (v := ?_) rfl (by kernel_rfl) (by kernel_rfl) (by kernel_rfl) (fun _ _ _ h => h) (Or.inl ⟨by rfl, ?_⟩) HS0 ?_
        rotate_left
        · intro W hW; (try dsimp only at hW); go_simp; try (with_reducible rfl)

        clear HS0
        have HS0 := HKS.out _ (HBx6.out)
        refine wpAnyH_take (i := 16) (v := ?_) rfl (by kernel_rfl) (by kernel_rfl) (by kernel_rfl) (fun _ _ _ h => h) (Or.inl ⟨by rfl, ?_⟩) HS0 ?_
        rotate_left
        · intro W hW; (try dsimp only at hW); go_simp; try (with_reducible rfl)

        clear HS0
        refine run_oneG (i := 17) (by kernel_rfl) rfl (by rfl) ?_
        intro K hK
        go_simp
        (with_reducible refine (HH.out Xx6 (below_next HBD.out (HBx6.out))).mono ?_)
        rintro e Xx7 ⟨rfl, hbx7⟩
        have HBx7 := Lib.hid (below_next (HBx6.out) hbx7)
        refine hK.out _ _ (HKS.out _ HBx7.out) ?_
        clear hK K
        intro _

        have HS0 := HKS.out _ (HBx7.out)
        refine wpAnyH_take (i := 18) (v := ?_) rfl (by kernel_rfl) (by kernel_rfl) (by kernel_rfl) (fun _ _ _ h => h) (Or.inl ⟨by rfl, ?_⟩) HS0 ?_
        rotate_left
        · intro W hW; (try dsimp only at hW); go_simp; try (with_reducible rfl)

        clear HS0
        have HS0 := HKS.out _ (HBx7.out)
        refine wpAnyH_take (i := 19) (v := ?_) rfl (by kernel_rfl) (by kernel_rfl) (by kernel_rfl) (fun _ _ _ h => h) (Or.inl ⟨by rfl, ?_⟩) HS0 ?_
        rotate_left
        · intro W hW; (try dsimp only at hW); go_simp; try (with_reducible rfl)

        clear HS0
        refine wpAnyH_done (by kernel_rfl) ?_ _
        refine NoPanic.normal ?_
        go_wp2
        go_ret
        exact ⟨by rfl, below_next HBD.out (HBx7.out)⟩
      · skip
        refine wp_region_noPanic ?_
        refine wp_region_held_drew (S := (fun X => Below wd.heap.size wd X ∧ X.cell? ⟨B5, 0, none⟩ = some (.string T1) ∧ X.cell? ⟨B5, 1, none⟩ = some (.string T2) ∧ X.cell? ⟨B5 + 1, 0, none⟩ = some (.string T3) ∧ X.cell? ⟨B5 + 1, 1, none⟩ = some (.string T4) ∧ X.cell? ⟨w.heap.size, 4, none⟩ = some (.string S4) ∧ X.cell? ⟨w.heap.size, 5, none⟩ = some (.string S5) ∧ X.cell? ⟨w.heap.size, 6, none⟩ = some (.string S6) ∧ X.cell? ⟨w.heap.size, 7, none⟩ = some (.string S7))) (by kernel_rfl) (HKS.out _ (Below.refl _ wd).drew) (fun HS0 => ?_)
        have hbx0 : Below wd.heap.size wd wd.drew := (Below.refl _ _).drew
        obtain ⟨Xx0, hXx0⟩ : ∃ X, X = wd.drew := ⟨_, rfl⟩
        rw [← hXx0] at hbx0 HS0 ⊢
        have HBx0 := Lib.hid hbx0
        clear hbx0 hXx0
        refine wpAnyH_take (i := 0) (v := ?_) rfl (by kernel_rfl) (by kernel_rfl) (by kernel_rfl) (fun _ _ _ h => h) (Or.inl ⟨by rfl, ?_⟩) HS0 ?_
        rotate_left
        · intro W hW; (try dsimp only at hW); go_simp; try (with_reducible rfl)

        refine wpAnyH_take (i := 2) (v := ?_) rfl (by kernel_rfl) (by kernel_rfl) (by kernel_rfl) (fun _ _ _ h => h) (Or.inl ⟨by rfl, ?_⟩) HS0 ?_
        rotate_left
        · intro W hW; (try dsimp only at hW); go_simp; try (with_reducible rfl)

        refine wpAnyH_take (i := 3) (v := ?_) rfl (by kernel_rfl) (by kernel_rfl) (by kernel_rfl) (fun _ _ _ h => h) (Or.inl ⟨by rfl, ?_⟩) HS0 ?_
        rotate_left
        · intro W hW; (try dsimp only at hW); go_simp; try (with_reducible rfl)

        clear HS0
        refine run_one (i := 1) (by kernel_rfl) rfl rfl ?_
        intro K hK
        go_simp
        (with_reducible refine (HFA.out Xx0).mono ?_)
        rintro e Xx1 ⟨v1, rfl, hvx1, hbx1⟩
        have HBx1 := Lib.hid (below_next (HBx0.out) hbx1)
        refine hK.out _ _ (HKS.out _ HBx1.out) ?_
        clear hK K
        intro _

        refine run_one (i := 4) (by kernel_rfl) rfl rfl ?_
        intro K hK
        go_simp
        (with_reducible refine (HFR0.out Xx1).mono ?_)
        rintro e Xx2 ⟨v2, rfl, hvx2, hbx2⟩
        have HBx2 := Lib.hid (below_next (HBx1.out) hbx2)
        refine hK.out _ _ (HKS.out _ HBx2.out) ?_
        clear hK K
        intro _

        refine run_one (i := 5) (by kernel_rfl) rfl rfl ?_
        intro K hK
        go_simp
        (with_reducible refine (HO1.out Xx2 _ _ ((hvx1).on hbx2) (hvx2)).mono ?_)
        rintro e Xx3 ⟨rfl, hbx3⟩
        have HBx3 := Lib.hid (below_next (HBx2.out) hbx3)
        refine hK.out _ _ (HKS.out _ HBx3.out) ?_
        clear hK K
        intro _

        have HS0 := HKS.out _ (HBx3.out)
        refine wpAnyH_take (i := 6) (v := ?_) rfl (by kernel_rfl) (by kernel_rfl) (by kernel_rfl) (fun _ _ _ h => h) (Or.inl ⟨by rfl, ?_⟩) HS0 ?_
        rotate_left
        · intro W hW; (try dsimp only at hW); go_simp; try (with_reducible rfl)

        clear HS0
        have HS0 := HKS.out _ (HBx3.out)
        refine wpAnyH_take (i := 7) (v := ?_) rfl (by kernel_rfl) (by kernel_rfl) (by kernel_rfl) (fun _ _ _ h => h) (Or.inl ⟨by rfl, ?_⟩) HS0 ?_
        rotate_left
        · intro W hW; (try dsimp only at hW); go_simp; try (with_reducible rfl)

        clear HS0
        have HS0 := HKS.out _ (HBx3.out)
        refine wpAnyH_take (i := 8) (v := ?_) rfl (by kernel_rfl) (by kernel_rfl) (by kernel_rfl) (fun _ _ _ h => h) (Or.inl ⟨by rfl, ?_⟩) HS0 ?_
        rotate_left
        · intro W hW; (try dsimp only at hW); go_simp; try (with_reducible rfl)

        clear HS0
        have HS0 := HKS.out _ (HBx3.out)
        refine wpAnyH_take (i := 10) (v := ?_) rfl (by kernel_rfl) (by kernel_rfl) (by kernel_rfl) (fun _ _ _ h => h) (Or.inl ⟨by rfl, ?_⟩) HS0 ?_
        rotate_left
        · intro W hW; (try dsimp only at hW); go_simp; try (with_reducible rfl)

        clear HS0
        have HS0 := HKS.out _ (HBx3.out)
        refine wpAnyH_take (i := 11) (v := ?_) rfl (by kernel_rfl) (by kernel_rfl) (by kernel_rfl) (fun _ _ _ h => h) (Or.inl ⟨by rfl, ?_⟩) HS0 ?_
        rotate_left
        · intro W hW; (try dsimp only at hW); go_simp; try (with_reducible rfl)

        clear HS0
        refine run_oneG (i := 9) (by kernel_rfl) rfl (by rfl) ?_
        intro K hK
        go_simp
        (with_reducible refine (HFB.out Xx3).mono ?_)
        rintro e Xx4 ⟨v4, rfl, hvx4, hbx4⟩
        have HBx4 := Lib.hid (below_next (HBx3.out) hbx4)
        refine hK.out _ _ (HKS.out _ HBx4.out) ?_
        clear hK K
        intro _

        refine run_oneG (i := 12) (by kernel_rfl) rfl (by rfl) ?_
        intro K hK
        go_simp
        (with_reducible refine (HFR1.out Xx4).mono ?_)
        rintro e Xx5 ⟨v5, rfl, hvx5, hbx5⟩
        have HBx5 := Lib.hid (below_next (HBx4.out) hbx5)
        refine hK.out _ _ (HKS.out _ HBx5.out) ?_
        clear hK K
        intro _

        refine run_oneG (i := 13) (by kernel_rfl) rfl (by rfl) ?_
        intro K hK
        go_simp
        (with_reducible refine (HO2.out Xx5 _ _ ((hvx4).on hbx5) (hvx5)).mono ?_)
        rintro e Xx6 ⟨rfl, hbx6⟩
        have HBx6 := Lib.hid (below_next (HBx5.out) hbx6)
        refine hK.out _ _ (HKS.out _ HBx6.out) ?_
        clear hK K
        intro _

        have HS0 := HKS.out _ (HBx6.out)
        refine wpAnyH_take (i := 14) (v := ?_) rfl (by kernel_rfl) (by kernel_rfl) (by kernel_rfl) (fun _ _ _ h => h) (Or.inl ⟨by rfl, ?_⟩) HS0 ?_
        rotate_left
        · intro W hW; (try dsimp only at hW); go_simp; try (with_reducible rfl)

        clear HS0
        have HS0 := HKS.out _ (HBx6.out)
        refine wpAnyH_take (i := 15) (v := ?_) rfl (by kernel_rfl) (by kernel_rfl) (by kernel_rfl) (fun _ _ _ h => h) (Or.inl ⟨by rfl, ?_⟩) HS0 ?_
        rotate_left
        · intro W hW; (try dsimp only at hW); go_simp; try (with_reducible rfl)

        clear HS0
        have HS0 := HKS.out _ (HBx6.out)
        refine wpAnyH_take (i := 16) (v := ?_) rfl (by kernel_rfl) (by kernel_rfl) (by kernel_rfl) (fun _ _ _ h => h) (Or.inl ⟨by rfl, ?_⟩) HS0 ?_
        rotate_left
        · intro W hW; (try dsimp only at hW); go_simp; try (with_reducible rfl)

        clear HS0
        refine run_oneG (i := 17) (by kernel_rfl) rfl (by rfl) ?_
        intro K hK
        go_simp
        (with_reducible refine (HH.out Xx6 (below_next HBD.out (HBx6.out))).mono ?_)
        rintro e Xx7 ⟨rfl, hbx7⟩
        have HBx7 := Lib.hid (below_next (HBx6.out) hbx7)
        refine hK.out _ _ (HKS.out _ HBx7.out) ?_
        clear hK K
        intro _

        have HS0 := HKS.out _ (HBx7.out)
        refine wpAnyH_take (i := 18) (v := ?_) rfl (by kernel_rfl) (by kernel_rfl) (by kernel_rfl) (fun _ _ _ h => h) (Or.inl ⟨by rfl, ?_⟩) HS0 ?_
        rotate_left
        · intro W hW; (try dsimp only at hW); go_simp; try (with_reducible rfl)

        clear HS0
        have HS0 := HKS.out _ (HBx7.out)
        refine wpAnyH_take (i := 19) (v := ?_) rfl (by kernel_rfl) (by kernel_rfl) (by kernel_rfl) (fun _ _ _ h => h) (Or.inl ⟨by rfl, ?_⟩) HS0 ?_
        rotate_left
        · intro W hW; (try dsimp only at hW); go_simp; try (with_reducible rfl)

        clear HS0
        refine wpAnyH_done (by kernel_rfl) ?_ _
        refine NoPanic.normal ?_
        go_wp2
        go_ret
        exact ⟨by rfl, below_next HBD.out (HBx7.out)⟩
    · rcases ho2 with rfl | rfl
      · skip
        refine wp_region_noPanic ?_
        refine wp_region_held_drew (S := (fun X => Below wd.heap.size wd X ∧ X.cell? ⟨B5, 0, none⟩ = some (.string T1) ∧ X.cell? ⟨B5, 1, none⟩ = some (.string T2) ∧ X.cell? ⟨B5 + 1, 0, none⟩ = some (.string T3) ∧ X.cell? ⟨B5 + 1, 1, none⟩ = some (.string T4) ∧ X.cell? ⟨w.heap.size, 4, none⟩ = some (.string S4) ∧ X.cell? ⟨w.heap.size, 5, none⟩ = some (.string S5) ∧ X.cell? ⟨w.heap.size, 6, none⟩ = some (.string S6) ∧ X.cell? ⟨w.heap.size, 7, none⟩ = some (.string S7))) (by kernel_rfl) (HKS.out _ (Below.refl _ wd).drew) (fun HS0 => ?_)
        have hbx0 : Below wd.heap.size wd wd.drew := (Below.refl _ _).drew
        obtain ⟨Xx0, hXx0⟩ : ∃ X, X = wd.drew := ⟨_, rfl⟩
        rw [← hXx0] at hbx0 HS0 ⊢
        have HBx0 := Lib.hid hbx0
        clear hbx0 hXx0
        refine wpAnyH_take (i := 0) (v := ?_) rfl (by kernel_rfl) (by kernel_rfl) (by kernel_rfl) (fun _ _ _ h => h) (Or.inl ⟨by rfl, ?_⟩) HS0 ?_
        rotate_left
        · intro W hW; (try dsimp only at hW); go_simp; try (with_reducible rfl)

        refine wpAnyH_take (i := 2) (v := ?_) rfl (by kernel_rfl) (by kernel_rfl) (by kernel_rfl) (fun _ _ _ h => h) (Or.inl ⟨by rfl, ?_⟩) HS0 ?_
        rotate_left
        · intro W hW; (try dsimp only at hW); go_simp; try (with_reducible rfl)

        refine wpAnyH_take (i := 3) (v := ?_) rfl (by kernel_rfl) (by kernel_rfl) (by kernel_rfl) (fun _ _ _ h => h) (Or.inl ⟨by rfl, ?_⟩) HS0 ?_
        rotate_left
        · intro W hW; (try dsimp only at hW); go_simp; try (with_reducible rfl)

        clear HS0
        refine run_one (i := 1) (by kernel_rfl) rfl rfl ?_
        intro K hK
        go_simp
        (with_reducible refine (HFA.out Xx0).mono ?_)
        rintro e Xx1 ⟨v1, rfl, hvx1, hbx1⟩
        have HBx1 := Lib.hid (below_next (HBx0.out) hbx1)
        refine hK.out _ _ (HKS.out _ HBx1.out) ?_
        clear hK K
        intro _

        refine run_one (i := 4) (by kernel_rfl) rfl rfl ?_
        intro K hK
        go_simp
        (with_reducible refine (HFR0.out Xx1).mono ?_)
        rintro e Xx2 ⟨v2, rfl, hvx2, hbx2⟩
        have HBx2 := Lib.hid (below_next (HBx1.out) hbx2)
        refine hK.out _ _ (HKS.out _ HBx2.out) ?_
        clear hK K
        intro _

        refine run_one (i := 5) (by kernel_rfl) rfl rfl ?_
        intro K hK
        go_simp
        (with_reducible refine (HO1.out Xx2 _ _ ((hvx1).on hbx2) (hvx2)).mono ?_)
        rintro e Xx3 ⟨rfl, hbx3⟩
        have HBx3 := Lib.hid (below_next (HBx2.out) hbx3)
        refine hK.out _ _ (HKS.out _ HBx3.out) ?_
        clear hK K
        intro _

        have HS0 := HKS.out _ (HBx3.out)
        refine wpAnyH_take (i := 6) (v := ?_) rfl (by kernel_rfl) (by kernel_rfl) (by kernel_rfl) (fun _ _ _ h => h) (Or.inl ⟨by rfl, ?_⟩) HS0 ?_
        rotate_left
        · intro W hW; (try dsimp only at hW); go_simp; try (with_reducible rfl)

        clear HS0
        have HS0 := HKS.out _ (HBx3.out)
        refine wpAnyH_take (i := 7) (v := ?_) rfl (by kernel_rfl) (by kernel_rfl) (by kernel_rfl) (fun _ _ _ h => h) (Or.inl ⟨by rfl, ?_⟩) HS0 ?_
        rotate_left
        · intro W hW; (try dsimp only at hW); go_simp; try (with_reducible rfl)

        clear HS0
        have HS0 := HKS.out _ (HBx3.out)
        refine wpAnyH_take (i := 8) (v := ?_) rfl (by kernel_rfl) (by kernel_rfl) (by kernel_rfl) (fun _ _ _ h => h) (Or.inl ⟨by rfl, ?_⟩) HS0 ?_
        rotate_left
        · intro W hW; (try dsimp only at hW); go_simp; try (with_reducible rfl)

        clear HS0
        have HS0 := HKS.out _ (HBx3.out)
        refine wpAnyH_take (i := 10) (v := ?_) rfl (by kernel_rfl) (by kernel_rfl) (by kernel_rfl) (fun _ _ _ h => h) (Or.inl ⟨by rfl, ?_⟩) HS0 ?_
        rotate_left
        · intro W hW; (try dsimp only at hW); go_simp; try (with_reducible rfl)

        clear HS0
        have HS0 := HKS.out _ (HBx3.out)
        refine wpAnyH_take (i := 11) (v := ?_) rfl (by kernel_rfl) (by kernel_rfl) (by kernel_rfl) (fun _ _ _ h => h) (Or.inl ⟨by rfl, ?_⟩) HS0 ?_
        rotate_left
        · intro W hW; (try dsimp only at hW); go_simp; try (with_reducible rfl)

        clear HS0
        refine run_oneG (i := 9) (by kernel_rfl) rfl (by rfl) ?_
        intro K hK
        go_simp
        (with_reducible refine (HFB.out Xx3).mono ?_)
        rintro e Xx4 ⟨v4, rfl, hvx4, hbx4⟩
        have HBx4 := Lib.hid (below_next (HBx3.out) hbx4)
        refine hK.out _ _ (HKS.out _ HBx4.out) ?_
        clear hK K
        intro _

        refine run_oneG (i := 12) (by kernel_rfl) rfl (by rfl) ?_
        intro K hK
        go_simp
        (with_reducible refine (HFR1.out Xx4).mono ?_)
        rintro e Xx5 ⟨v5, rfl, hvx5, hbx5⟩
        have HBx5 := Lib.hid (below_next (HBx4.out) hbx5)
        refine hK.out _ _ (HKS.out _ HBx5.out) ?_
        clear hK K
        intro _

        refine run_oneG (i := 13) (by kernel_rfl) rfl (by rfl) ?_
        intro K hK
        go_simp
        (with_reducible refine (HO2.out Xx5 _ _ ((hvx4).on hbx5) (hvx5)).mono ?_)
        rintro e Xx6 ⟨rfl, hbx6⟩
        have HBx6 := Lib.hid (below_next (HBx5.out) hbx6)
        refine hK.out _ _ (HKS.out _ HBx6.out) ?_
        clear hK K
        intro _

        have HS0 := HKS.out _ (HBx6.out)
        refine wpAnyH_take (i := 14) (v := ?_) rfl (by kernel_rfl) (by kernel_rfl) (by kernel_rfl) (fun _ _ _ h => h) (Or.inl ⟨by rfl, ?_⟩) HS0 ?_
        rotate_left
        · intro W hW; (try dsimp only at hW); go_simp; try (with_reducible rfl)

        clear HS0
        have HS0 := HKS.out _ (HBx6.out)
        refine wpAnyH_take (i := 15) (v := ?_) rfl (by kernel_rfl) (by kernel_rfl) (by kernel_rfl) (fun _ _ _ h => h) (Or.inl ⟨by rfl, ?_⟩) HS0 ?_
        rotate_left
        · intro W hW; (try dsimp only at hW); go_simp; try (with_reducible rfl)

        clear HS0
        have HS0 := HKS.out _ (HBx6.out)
        refine wpAnyH_take (i := 16) (v := ?_) rfl (by kernel_rfl) (by kernel_rfl) (by kernel_rfl) (fun _ _ _ h => h) (Or.inl ⟨by rfl, ?_⟩) HS0 ?_
        rotate_left
        · intro W hW; (try dsimp only at hW); go_simp; try (with_reducible rfl)

        clear HS0
        refine run_oneG (i := 17) (by kernel_rfl) rfl (by rfl) ?_
        intro K hK
        go_simp
        (with_reducible refine (HH.out Xx6 (below_next HBD.out (HBx6.out))).mono ?_)
        rintro e Xx7 ⟨rfl, hbx7⟩
        have HBx7 := Lib.hid (below_next (HBx6.out) hbx7)
        refine hK.out _ _ (HKS.out _ HBx7.out) ?_
        clear hK K
        intro _

        have HS0 := HKS.out _ (HBx7.out)
        refine wpAnyH_take (i := 18) (v := ?_) rfl (by kernel_rfl) (by kernel_rfl) (by kernel_rfl) (fun _ _ _ h => h) (Or.inl ⟨by rfl, ?_⟩) HS0 ?_
        rotate_left
        · intro W hW; (try dsimp only at hW); go_simp; try (with_reducible rfl)

        clear HS0
        have HS0 := HKS.out _ (HBx7.out)
        refine wpAnyH_take (i := 19) (v := ?_) rfl (by kernel_rfl) (by kernel_rfl) (by kernel_rfl) (fun _ _ _ h => h) (Or.inl ⟨by rfl, ?_⟩) HS0 ?_
        rotate_left
        · intro W hW; (try dsimp only at hW); go_simp; try (with_reducible rfl)

        clear HS0
        refine wpAnyH_done (by kernel_rfl) ?_ _
        refine NoPanic.normal ?_
        go_wp2
        go_ret
        exact ⟨by rfl, below_next HBD.out (HBx7.out)⟩
      · skip
        refine wp_region_noPanic ?_
        refine wp_region_held_drew (S := (fun X => Below wd.heap.size wd X ∧ X.cell? ⟨B5, 0, none⟩ = some (.string T1) ∧ X.cell? ⟨B5, 1, none⟩ = some (.string T2) ∧ X.cell? ⟨B5 + 1, 0, none⟩ = some (.string T3) ∧ X.cell? ⟨B5 + 1, 1, none⟩ = some (.string T4) ∧ X.cell? ⟨w.heap.size, 4, none⟩ = some (.string S4) ∧ X.cell? ⟨w.heap.size, 5, none⟩ = some (.string S5) ∧ X.cell? ⟨w.heap.size, 6, none⟩ = some (.string S6) ∧ X.cell? ⟨w.heap.size, 7, none⟩ = some (.string S7))) (by kernel_rfl) (HKS.out _ (Below.refl _ wd).drew) (fun HS0 => ?_)
        have hbx0 : Below wd.heap.size wd wd.drew := (Below.refl _ _).drew
        obtain ⟨Xx0, hXx0⟩ : ∃ X, X = wd.drew := ⟨_, rfl⟩
        rw [← hXx0] at hbx0 HS0 ⊢
        have HBx0 := Lib.hid hbx0
        clear hbx0 hXx0
        refine wpAnyH_take (i := 0) (v := ?_) rfl (by kernel_rfl) (by kernel_rfl) (by kernel_rfl) (fun _ _ _ h => h) (Or.inl ⟨by rfl, ?_⟩) HS0 ?_
        rotate_left
        · intro W hW; (try dsimp only at hW); go_simp; try (with_reducible rfl)

        refine wpAnyH_take (i := 2) (v := ?_) rfl (by kernel_rfl) (by kernel_rfl) (by kernel_rfl) (fun _ _ _ h => h) (Or.inl ⟨by rfl, ?_⟩) HS0 ?_
        rotate_left
        · intro W hW; (try dsimp only at hW); go_simp; try (with_reducible rfl)

        refine wpAnyH_take (i := 3) (v := ?_) rfl (by kernel_rfl) (by kernel_rfl) (by kernel_rfl) (fun _ _ _ h => h) (Or.inl ⟨by rfl, ?_⟩) HS0 ?_
        rotate_left
        · intro W hW; (try dsimp only at hW); go_simp; try (with_reducible rfl)

        clear HS0
        refine run_one (i := 1) (by kernel_rfl) rfl rfl ?_
        intro K hK
        go_simp
        (with_reducible refine (HFA.out Xx0).mono ?_)
        rintro e Xx1 ⟨v1, rfl, hvx1, hbx1⟩
        have HBx1 := Lib.hid (below_next (HBx0.out) hbx1)
        refine hK.out _ _ (HKS.out _ HBx1.out) ?_
        clear hK K
        intro _

        refine run_one (i := 4) (by kernel_rfl) rfl rfl ?_
        intro K hK
        go_simp
        (with_reducible refine (HFR0.out Xx1).mono ?_)
        rintro e Xx2 ⟨v2, rfl, hvx2, hbx2⟩
        have HBx2 := Lib.hid (below_next (HBx1.out) hbx2)
        refine hK.out _ _ (HKS.out _ HBx2.out) ?_
        clear hK K
        intro _

        refine run_one (i := 5) (by kernel_rfl) rfl rfl ?_
        intro K hK
        go_simp
        (with_reducible refine (HO1.out Xx2 _ _ ((hvx1).on hbx2) (hvx2)).mono ?_)
        rintro e Xx3 ⟨rfl, hbx3⟩
        have HBx3 := Lib.hid (below_next (HBx2.out) hbx3)
        refine hK.out _ _ (HKS.out _ HBx3.out) ?_
        clear hK K
        intro _

        have HS0 := HKS.out _ (HBx3.out)
        refine wpAnyH_take (i := 6) (v := ?_) rfl (by kernel_rfl) (by kernel_rfl) (by kernel_rfl) (fun _ _ _ h => h) (Or.inl ⟨by rfl, ?_⟩) HS0 ?_
        rotate_left
        · intro W hW; (try dsimp only at hW); go_simp; try (with_reducible rfl)

        clear HS0
        have HS0 := HKS.out _ (HBx3.out)
        refine wpAnyH_take (i := 7) (v := ?_) rfl (by kernel_rfl) (by kernel_rfl) (by kernel_rfl) (fun _ _ _ h => h) (Or.inl ⟨by rfl, ?_⟩) HS0 ?_
        rotate_left
        · intro W hW; (try dsimp only at hW); go_simp; try (with_reducible rfl)

        clear HS0
        have HS0 := HKS.out _ (HBx3.out)
        refine wpAnyH_take (i := 8) (v := ?_) rfl (by kernel_rfl) (by kernel_rfl) (by kernel_rfl) (fun _ _ _ h => h) (Or.inl ⟨by rfl, ?_⟩) HS0 ?_
        rotate_left
        · intro W hW; (try dsimp only at hW); go_simp; try (with_reducible rfl)

        clear HS0
        have HS0 := HKS.out _ (HBx3.out)
        refine wpAnyH_take (i := 10) (v := ?_) rfl (by kernel_rfl) (by kernel_rfl) (by kernel_rfl) (fun _ _ _ h => h) (Or.inl ⟨by rfl, ?_⟩) HS0 ?_
        rotate_left
        · intro W hW; (try dsimp only at hW); go_simp; try (with_reducible rfl)

        clear HS0
        have HS0 := HKS.out _ (HBx3.out)
        refine wpAnyH_take (i := 11) (v := ?_) rfl (by kernel_rfl) (by kernel_rfl) (by kernel_rfl) (fun _ _ _ h => h) (Or.inl ⟨by rfl, ?_⟩) HS0 ?_
        rotate_left
        · intro W hW; (try dsimp only at hW); go_simp; try (with_reducible rfl)

        clear HS0
        refine run_oneG (i := 9) (by kernel_rfl) rfl (by rfl) ?_
        intro K hK
        go_simp
        (with_reducible refine (HFB.out Xx3).mono ?_)
        rintro e Xx4 ⟨v4, rfl, hvx4, hbx4⟩
        have HBx4 := Lib.hid (below_next (HBx3.out) hbx4)
        refine hK.out _ _ (HKS.out _ HBx4.out) ?_
        clear hK K
        intro _

        refine run_oneG (i := 12) (by kernel_rfl) rfl (by rfl) ?_
        intro K hK
        go_simp
        (with_reducible refine (HFR1.out Xx4).mono ?_)
        rintro e Xx5 ⟨v5, rfl, hvx5, hbx5⟩
        have HBx5 := Lib.hid (below_next (HBx4.out) hbx5)
        refine hK.out _ _ (HKS.out _ HBx5.out) ?_
        clear hK K
        intro _

        refine run_oneG (i := 13) (by kernel_rfl) rfl (by rfl) ?_
        intro K hK
        go_simp
        (with_reducible refine (HO2.out Xx5 _ _ ((hvx4).on hbx5) (hvx5)).mono ?_)
        rintro e Xx6 ⟨rfl, hbx6⟩
        have HBx6 := Lib.hid (below_next (HBx5.out) hbx6)
        refine hK.out _ _ (HKS.out _ HBx6.out) ?_
        clear hK K
        intro _

        have HS0 := HKS.out _ (HBx6.out)
        refine wpAnyH_take (i := 14) (v := ?_) rfl (by kernel_rfl) (by kernel_rfl) (by kernel_rfl) (fun _ _ _ h => h) (Or.inl ⟨by rfl, ?_⟩) HS0 ?_
        rotate_left
        · intro W hW; (try dsimp only at hW); go_simp; try (with_reducible rfl)

        clear HS0
        have HS0 := HKS.out _ (HBx6.out)
        refine wpAnyH_take (i := 15) (v := ?_) rfl (by kernel_rfl) (by kernel_rfl) (by kernel_rfl) (fun _ _ _ h => h) (Or.inl ⟨by rfl, ?_⟩) HS0 ?_
        rotate_left
        · intro W hW; (try dsimp only at hW); go_simp; try (with_reducible rfl)

        clear HS0
        have HS0 := HKS.out _ (HBx6.out)
        refine wpAnyH_take (i := 16) (v := ?_) rfl (by kernel_rfl) (by kernel_rfl) (by kernel_rfl) (fun _ _ _ h => h) (Or.inl ⟨by rfl, ?_⟩) HS0 ?_
        rotate_left
        · intro W hW; (try dsimp only at hW); go_simp; try (with_reducible rfl)

        clear HS0
        refine run_oneG (i := 17) (by kernel_rfl) rfl (by rfl) ?_
        intro K hK
        go_simp
        (with_reducible refine (HH.out Xx6 (below_next HBD.out (HBx6.out))).mono ?_)
        rintro e Xx7 ⟨rfl, hbx7⟩
        have HBx7 := Lib.hid (below_next (HBx6.out) hbx7)
        refine hK.out _ _ (HKS.out _ HBx7.out) ?_
        clear hK K
        intro _

        have HS0 := HKS.out _ (HBx7.out)
        refine wpAnyH_take (i := 18) (v := ?_) rfl (by kernel_rfl) (by kernel_rfl) (by kernel_rfl) (fun _ _ _ h => h) (Or.inl ⟨by rfl, ?_⟩) HS0 ?_
        rotate_left
        · intro W hW; (try dsimp only at hW); go_simp; try (with_reducible rfl)

        clear HS0
        have HS0 := HKS.out _ (HBx7.out)
        refine wpAnyH_take (i := 19) (v := ?_) rfl (by kernel_rfl) (by kernel_rfl) (by kernel_rfl) (fun _ _ _ h => h) (Or.inl ⟨by rfl, ?_⟩) HS0 ?_
        rotate_left
        · intro W hW; (try dsimp only at hW); go_simp; try (with_reducible rfl)

        clear HS0
        refine wpAnyH_done (by kernel_rfl) ?_ _
        refine NoPanic.normal ?_
        go_wp2
        go_ret
        exact ⟨by rfl, below_next HBD.out (HBx7.out)⟩
end Go.Proofs.YtlkjgjojahjapaaGreatDoor
