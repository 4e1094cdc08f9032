/- The reference's Bounds and Judge. Printed by gen_r10trl4.py. -/
import Derived.Test.YtnapdhfkgfjjfaaGreatDoorR10Tr3
import Derived.Test.YtnapdhfkgfjjfaaGreatDoorJJud
namespace Go.Proofs.YtnapdhfkgfjjfaaGreatDoor
open Go Go.RowKit Go.Proofs

set_option maxHeartbeats 8000000 in
set_option maxRecDepth 100000 in
theorem rBoundsP_any (S0 S1 S2 S3 S4 S5 S6 S7 : ByteArray) (n : Int) (w : World) (z0 : S0.size ≤ 9223372036854775800) (z1 : S1.size ≤ 9223372036854775800) (z2 : S2.size ≤ 9223372036854775800) (z3 : S3.size ≤ 9223372036854775800) (z4 : S4.size ≤ 9223372036854775800) (z5 : S5.size ≤ 9223372036854775800) (z6 : S6.size ≤ 9223372036854775800) (z7 : S7.size ≤ 9223372036854775800) :
    Calls Tryz.prog 24 #[.agg #[.string S0, .string S1, .string S2, .string S3, .string S4, .string S5, .string S6, .string S7], .int .i64 n] w (BndPost (TL S0 S1 S2 S3 S4 S5 S6 S7) (prQ (S0, S1)) (prQ (S2, S3)) (prQ (S4, S5)) (prQ (S6, S7)) n w) := by
  obtain ⟨L, hL⟩ : ∃ L, L = TL S0 S1 S2 S3 S4 S5 S6 S7 := ⟨_, rfl⟩
  have hok := tr_ok (S0 := S0) (S1 := S1) (S2 := S2) (S3 := S3) (S4 := S4) (S5 := S5) (S6 := S6) (S7 := S7)
  have hcr := tr_cRt (S0 := S0) (S1 := S1) (S2 := S2) (S3 := S3) (S4 := S4) (S5 := S5) (S6 := S6) (S7 := S7)
  have HCT := Lib.hid (fun W => rCheckTrial_any S0 S1 S2 S3 S4 S5 S6 S7 W z0 z1 z2 z3 z4 z5 z6 z7)
  rw [← hL] at hok hcr HCT ⊢
  have HPE := Lib.hid (show ∃ a b c d, a = prQ (S0, S1) ∧ b = prQ (S2, S3) ∧ c = prQ (S4, S5) ∧ d = prQ (S6, S7) from ⟨_, _, _, _, rfl, rfl, rfl, rfl⟩)
  obtain ⟨p, hp⟩ : ∃ q, q = prQ (S0, S1) := ⟨_, rfl⟩
  obtain ⟨q, hq⟩ : ∃ r, r = prQ (S2, S3) := ⟨_, rfl⟩
  obtain ⟨r0, hr0⟩ : ∃ q, q = prQ (S4, S5) := ⟨_, rfl⟩
  obtain ⟨r1, hr1⟩ : ∃ q, q = prQ (S6, S7) := ⟨_, rfl⟩
  rw [← hp, ← hq] at hcr HCT
  rw [← hp, ← hq, ← hr0, ← hr1] at hok ⊢
  unfold BndPost
  have HC1 := Lib.hid (bnC_tr (L := L) (p := p) (q := q) (n := n))
  have HC2 := Lib.hid (bnC_rng (L := L) (p := p) (q := q) (n := n))
  have HC3 := Lib.hid (bnC_ok (L := L) (p := p) (q := q) (n := n))
  obtain ⟨C, hC⟩ : ∃ c, c = trCode L p q := ⟨_, rfl⟩
  obtain ⟨D, hD⟩ : ∃ c, c = bnC L p q n := ⟨_, rfl⟩
  rw [← hC] at HCT HC1 HC2 HC3 hok hcr
  rw [← hD] at HC1 HC2 HC3 ⊢
  obtain ⟨W0, hW0⟩ : ∃ W0, W0 = w.alloc (.cells #[.string S0, .string S1, .string S2, .string S3, .string S4, .string S5, .string S6, .string S7] 36) := ⟨_, rfl⟩
  have HST0 := Lib.hid (show St w W0 [(w.heap.size, .cells #[.string S0, .string S1, .string S2, .string S3, .string S4, .string S5, .string S6, .string S7] 36 (0, 0))] by rw [hW0]; exact (St.start w).alloc _ _ rfl)
  have HK := Lib.hid (show ∀ X, Below W0.heap.size W0 X → X.cell? ⟨w.heap.size, 0, none⟩ = some (.string S0) ∧ X.cell? ⟨w.heap.size, 1, none⟩ = some (.string S1) ∧ X.cell? ⟨w.heap.size, 2, none⟩ = some (.string S2) ∧ X.cell? ⟨w.heap.size, 3, none⟩ = some (.string S3) ∧ X.cell? ⟨w.heap.size, 4, none⟩ = some (.string S4) ∧ X.cell? ⟨w.heap.size, 5, none⟩ = some (.string S5) ∧ X.cell? ⟨w.heap.size, 6, none⟩ = some (.string S6) ∧ X.cell? ⟨w.heap.size, 7, none⟩ = some (.string S7) from fun X hX => ⟨(HST0.out.call hX).cell 0 0 rfl rfl, (HST0.out.call hX).cell 0 1 rfl rfl, (HST0.out.call hX).cell 0 2 rfl rfl, (HST0.out.call hX).cell 0 3 rfl rfl, (HST0.out.call hX).cell 0 4 rfl rfl, (HST0.out.call hX).cell 0 5 rfl rfl, (HST0.out.call hX).cell 0 6 rfl rfl, (HST0.out.call hX).cell 0 7 rfl rfl⟩)
  obtain ⟨p0, p1, p2, p3, p4, p5, p6, p7⟩ := HK.out W0 (Below.refl _ _)
  have HPQ := Lib.hid (And.intro hp.symm (And.intro hq.symm (And.intro hr0.symm hr1.symm)))
  clear hL hp hq hr0 hr1 hC hD HPE z0 z1 z2 z3 z4 z5 z6 z7
  by_cases hz : C = 0
  · have HOK := Lib.hid (hok hz)
    obtain ⟨c0, c1, c2, c3⟩ := hcr hz
    have HZ := Lib.hid hz
    by_cases hr : n < 0 ∨ 2000 < n
    · have HD := Lib.hid (HC2.out hz hr)
      have t1 : (C != 0) = false := by rw [hz]; rfl
      by_cases hn0 : n < 0
      · have t2 : decide (n < 0) = true := decide_eq_true hn0
        clear hz hr hok hcr c0 c1 c2 c3 hn0
        go_enter Tryz.func24, Tryz.ntmps24
        go_wp2_with fail
        rw [← hW0]
        clear hW0
        (with_reducible refine (HCT.out _).mono ?_)
        rintro e w1 ⟨rfl, hb1⟩
        have HB := Lib.hid (below_next HST0.out.below hb1)
        clear hb1 p0 p1 p2 p3 p4 p5 p6 p7
        go_wp2
        refine bodyPost_ret (v := .tuple #[.int .i64 0, .int .i64 0, .int .i64 9]) (by simp [results, Tryz.results24, go_sem]) rfl (.inl ⟨by rw [HD.out]; decide, by rw [HD.out], HB.out⟩)
      · have t2 : decide (n < 0) = false := decide_eq_false hn0
        have t3 : decide (2000 < n) = true := decide_eq_true (by omega)
        clear hz hr hok hcr c0 c1 c2 c3 hn0
        go_enter Tryz.func24, Tryz.ntmps24
        go_wp2_with fail
        rw [← hW0]
        clear hW0
        (with_reducible refine (HCT.out _).mono ?_)
        rintro e w1 ⟨rfl, hb1⟩
        have HB := Lib.hid (below_next HST0.out.below hb1)
        clear hb1 p0 p1 p2 p3 p4 p5 p6 p7
        go_wp2
        refine bodyPost_ret (v := .tuple #[.int .i64 0, .int .i64 0, .int .i64 9]) (by simp [results, Tryz.results24, go_sem]) rfl (.inl ⟨by rw [HD.out]; decide, by rw [HD.out], HB.out⟩)
    · have HD := Lib.hid (HC3.out hz hr)
      have t1 : (C != 0) = false := by rw [hz]; rfl
      have t2 : decide (n < 0) = false := decide_eq_false (by omega)
      have t3 : decide (2000 < n) = false := decide_eq_false (by omega)
      obtain ⟨N, rfl⟩ : ∃ N : Nat, n = N := ⟨n.toNat, by omega⟩
      have hN : N ≤ 2000 := by omega
      have ok := HOK.out
      have HLO := Lib.hid (fun f W (hf : f ≤ N) => rIsLow_any S0 S1 S2 S3 S4 S5 S6 S7 N f p q r1 W HPQ.out.1 HPQ.out.2.1 HPQ.out.2.2.2 c0 c1 c3 ok.g ok.s ok.b2 (by have := ok.b1; have := ok.b2; omega) hf hN)
      have HHI := Lib.hid (fun f W (hf : f ≤ N) => rIsHigh_any S0 S1 S2 S3 S4 S5 S6 S7 N f p q r0 W HPQ.out.1 HPQ.out.2.1 HPQ.out.2.2.1 c0 c1 c2 ok.g ok.s ok.a2 (by have := ok.a1; have := ok.a2; omega) hf hN)
      have HLE := Lib.hid (fun a => LoAt.of (r := r1) ok.g (n := N) (a := a))
      have HHE := Lib.hid (fun b => HiAt.of (r := r0) ok.g (n := N) (b := b))
      obtain ⟨lo, hlo⟩ : ∃ g, g = fun f => loT r1 (trU p q N f) (trD p q N f) := ⟨_, rfl⟩
      obtain ⟨hi, hhi⟩ : ∃ g, g = fun f => hiT r0 (trU p q N f) (trD p q N f) := ⟨_, rfl⟩
      have HLOF := Lib.hid (show ∀ f, lo f = loT r1 (trU p q N f) (trD p q N f) from fun f => by rw [hlo])
      have HHIF := Lib.hid (show ∀ f, hi f = hiT r0 (trU p q N f) (trD p q N f) from fun f => by rw [hhi])
      have HLO2 := Lib.hid (show ∀ f W, f ≤ N → Calls Tryz.prog 62 #[.agg #[.string S0, .string S1, .string S2, .string S3, .string S4, .string S5, .string S6, .string S7], .int .i64 (N : Nat), .int .i64 (f : Nat)] W fun e w' => e = .returned (.bool (lo f)) ∧ Below W.heap.size W w' from fun f W hf => by rw [HLOF.out f]; exact HLO.out f W hf)
      have HHI2 := Lib.hid (show ∀ f W, f ≤ N → Calls Tryz.prog 63 #[.agg #[.string S0, .string S1, .string S2, .string S3, .string S4, .string S5, .string S6, .string S7], .int .i64 (N : Nat), .int .i64 (f : Nat)] W fun e w' => e = .returned (.bool (hi f)) ∧ Below W.heap.size W w' from fun f W hf => by rw [HHIF.out f]; exact HHI.out f W hf)
      clear hz hr hok hcr c0 c1 c2 c3 ok HLO HHI hlo hhi
      go_enter Tryz.func24, Tryz.ntmps24
      go_wp2_with fail
      rw [← hW0]
      clear hW0
      (with_reducible refine (HCT.out _).mono ?_)
      rintro e w1 ⟨rfl, hb1⟩
      have HB1 := Lib.hid hb1
      clear hb1 p0 p1 p2 p3 p4 p5 p6 p7
      go_wp2
      go_loopw [8, 9] (fun av bv wr => ∃ a b : Int, av = .int .i64 a ∧ bv = .int .i64 b ∧ -1 ≤ a ∧ a < b ∧ b ≤ (N : Int) + 1 ∧ (0 ≤ a → lo a.toNat = true) ∧ (b ≤ (N : Int) → lo b.toNat = false) ∧ Below W0.heap.size W0 wr) (fun av bv _ => (intOf bv - intOf av).toNat)
      case atStart => exact ⟨-1, (N : Int) + 1, by first | rfl | go_num, by first | rfl | go_num, by omega, by omega, by omega, fun h => by omega, fun h => by omega, HB1.out⟩
      case round =>
        obtain ⟨a, b, rfl, rfl, ha1, hab, hbN, hl, hr, hbw⟩ := hrel
        have HBW := Lib.hid hbw
        have HL := Lib.hid hl
        have HR := Lib.hid hr
        clear hl hr hbw
        by_cases hlt : a < b - 1
        · obtain ⟨m, hm⟩ : ∃ m : Nat, (m : Int) = (a + b) / 2 := ⟨((a + b) / 2).toNat, by omega⟩
          have hm1 : a < (m : Int) := by omega
          have hm2 : (m : Int) < b := by omega
          have hmn : m ≤ N := by omega
          have HMT := Lib.hid (show (a + b).tdiv 2 = (m : Int) from by rw [Int.tdiv_eq_ediv_of_nonneg (by omega)]; exact hm.symm)
          have hA := HLO2.out m wr hmn
          have HA := Lib.hid hA
          have hA2 := hA
          rw [hm] at hA2
          have HA2 := Lib.hid hA2
          have hA3 := hA
          rw [← HMT.out] at hA3
          have HA3 := Lib.hid hA3
          have HM := Lib.hid hm
          clear hA hA2 hA3 hm
          obtain ⟨p0, p1, p2, p3, p4, p5, p6, p7⟩ := HK.out wr HBW.out
          go_wp2_with fail
          first
            | (with_reducible refine (HA.out).mono ?_)
            | (with_reducible refine (HA2.out).mono ?_)
            | (with_reducible refine (HA3.out).mono ?_)
          rintro e w2 ⟨rfl, hb2⟩
          have HB2 := Lib.hid (below_next HBW.out hb2)
          obtain ⟨z, hz⟩ : ∃ z, z = lo m := ⟨_, rfl⟩
          rw [← hz]
          have HZZ := Lib.hid hz
          clear hb2 hz HA HA2 HA3 p0 p1 p2 p3 p4 p5 p6 p7
          cases z with
          | true =>
            go_wp2
            go_roundw
            case rel => exact ⟨(m : Int), b, by first | rfl | (rw [HM.out]; done) | (rw [← HMT.out]; done) | (rw [HM.out]; go_num), rfl, by omega, by omega, hbN, fun _ => by rw [Int.toNat_natCast]; exact HZZ.out.symm, HR.out, HB2.out⟩
            case measure =>
              have h1 := HM.out
              have h2 := HMT.out
              simp [intOf]; omega
          | false =>
            go_wp2
            go_roundw
            case rel => exact ⟨a, (m : Int), rfl, by first | rfl | (rw [HM.out]; done) | (rw [← HMT.out]; done) | (rw [HM.out]; go_num), ha1, by omega, by omega, HL.out, fun _ => by rw [Int.toNat_natCast]; exact HZZ.out.symm, HB2.out⟩
            case measure =>
              have h1 := HM.out
              have h2 := HMT.out
              simp [intOf]; omega
        · have HLOW := Lib.hid (show LoAt p q r1 N a from HLE.out a ha1 (by omega) (fun h => by rw [← HLOF.out]; exact HL.out h) (fun h => by rw [← HLOF.out, show a + 1 = b by omega]; exact HR.out (by omega)))
          clear HL HR
          go_wp2
          go_loopw [8, 9] (fun av bv wr => ∃ c d : Int, av = .int .i64 c ∧ bv = .int .i64 d ∧ -1 ≤ c ∧ c < d ∧ d ≤ (N : Int) + 1 ∧ (0 ≤ c → hi c.toNat = false) ∧ (d ≤ (N : Int) → hi d.toNat = true) ∧ Below W0.heap.size W0 wr) (fun av bv _ => (intOf bv - intOf av).toNat)
          case atStart => exact ⟨-1, (N : Int) + 1, by first | rfl | go_num, by first | rfl | go_num, by omega, by omega, by omega, fun h => by omega, fun h => by omega, HBW.out⟩
          case round =>
            clear hlt ha1 hab hbN
            obtain ⟨a', b', rfl, rfl, ha1, hab, hbN, hl, hr, hbw⟩ := hrel
            have HBV := Lib.hid hbw
            have HL := Lib.hid hl
            have HR := Lib.hid hr
            have HEA := Lib.hid HLOW.out
            clear hl hr hbw HLOW
            obtain ⟨lv, hlv⟩ : ∃ l, l = a := ⟨_, rfl⟩
            rw [← hlv] at HEA ⊢
            clear hlv
            obtain ⟨a, haa⟩ : ∃ l, l = a' := ⟨_, rfl⟩
            obtain ⟨b, hbb⟩ : ∃ l, l = b' := ⟨_, rfl⟩
            rw [← haa, ← hbb]
            rw [← haa] at ha1 hab HL
            rw [← hbb] at hab hbN HR
            clear haa hbb
            by_cases hlt : a < b - 1
            · obtain ⟨m, hm⟩ : ∃ m : Nat, (m : Int) = (a + b) / 2 := ⟨((a + b) / 2).toNat, by omega⟩
              have hm1 : a < (m : Int) := by omega
              have hm2 : (m : Int) < b := by omega
              have hmn : m ≤ N := by omega
              have HMT := Lib.hid (show (a + b).tdiv 2 = (m : Int) from by rw [Int.tdiv_eq_ediv_of_nonneg (by omega)]; exact hm.symm)
              have hA := HHI2.out m wr hmn
              have HA := Lib.hid hA
              have hA2 := hA
              rw [hm] at hA2
              have HA2 := Lib.hid hA2
              have hA3 := hA
              rw [← HMT.out] at hA3
              have HA3 := Lib.hid hA3
              have HM := Lib.hid hm
              clear hA hA2 hA3 hm
              obtain ⟨p0, p1, p2, p3, p4, p5, p6, p7⟩ := HK.out wr HBV.out
              go_wp2_with fail
              first
                | (with_reducible refine (HA.out).mono ?_)
                | (with_reducible refine (HA2.out).mono ?_)
                | (with_reducible refine (HA3.out).mono ?_)
              rintro e w2 ⟨rfl, hb2⟩
              have HB2 := Lib.hid (below_next HBV.out hb2)
              obtain ⟨z, hz⟩ : ∃ z, z = hi m := ⟨_, rfl⟩
              rw [← hz]
              have HZZ := Lib.hid hz
              clear hb2 hz HA HA2 HA3 p0 p1 p2 p3 p4 p5 p6 p7
              cases z with
              | true =>
                go_wp2
                go_roundw
                case rel => exact ⟨a, (m : Int), rfl, by first | rfl | (rw [HM.out]; done) | (rw [← HMT.out]; done) | (rw [HM.out]; go_num), ha1, by omega, by omega, HL.out, fun _ => by rw [Int.toNat_natCast]; exact HZZ.out.symm, HB2.out⟩
                case measure =>
                  have h1 := HM.out
                  have h2 := HMT.out
                  simp [intOf]; omega
              | false =>
                go_wp2
                go_roundw
                case rel => exact ⟨(m : Int), b, by first | rfl | (rw [HM.out]; done) | (rw [← HMT.out]; done) | (rw [HM.out]; go_num), rfl, by omega, by omega, hbN, fun _ => by rw [Int.toNat_natCast]; exact HZZ.out.symm, HR.out, HB2.out⟩
                case measure =>
                  have h1 := HM.out
                  have h2 := HMT.out
                  simp [intOf]; omega
            · have HHIGH := Lib.hid (show HiAt p q r0 N b from HHE.out b (by omega) (by omega) (fun h => by rw [← HHIF.out]; exact HR.out h) (fun h => by rw [← HHIF.out, show b - 1 = a by omega]; exact HL.out (by omega)))
              clear HL HR
              go_wp2
              refine bodyPost_ret (v := .tuple #[.int .i64 lv, .int .i64 b, .int .i64 0]) (by simp [results, Tryz.results24, go_sem]) rfl (.inr ⟨HD.out, lv, b, rfl, HEA.out, HHIGH.out, below_next HST0.out.below HBV.out⟩)
  · have HD := Lib.hid (HC1.out hz)
    have HNE := Lib.hid hz
    have t1 : (C != 0) = true := by rw [bne_iff_ne]; exact hz
    clear hz hok hcr
    go_enter Tryz.func24, Tryz.ntmps24
    go_wp2_with fail
    rw [← hW0]
    clear hW0
    (with_reducible refine (HCT.out _).mono ?_)
    rintro e w1 ⟨rfl, hb1⟩
    have HB := Lib.hid (below_next HST0.out.below hb1)
    clear hb1 p0 p1 p2 p3 p4 p5 p6 p7
    go_wp2
    refine bodyPost_ret (v := .tuple #[.int .i64 0, .int .i64 0, .int .i64 C]) (by simp [results, Tryz.results24, go_sem]) rfl (.inl ⟨by rw [HD.out]; exact HNE.out, by rw [HD.out], HB.out⟩)
end Go.Proofs.YtnapdhfkgfjjfaaGreatDoor
