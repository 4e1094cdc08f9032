/- The reference's Judge. Printed by gen_r10trl4.py. -/
import Derived.Test.YtnapdhfkgfjjfaaGreatDoorR10Tr3
import Derived.Test.YtnapdhfkgfjjfaaGreatDoorJJud
namespace Go.Proofs.YtnapdhfkgfjjfaaGreatDoor
open Go Go.RowKit Go.Proofs

theorem trU_one (p q : Rat) : trU p q 1 1 = frN q * p.den := by unfold trU; simp
theorem trU_nil (p q : Rat) : trU p q 1 0 = (q.den - frN q) * p.den := by unfold trU; simp
theorem trD_one (p q : Rat) : trD p q 1 1 = frN p * q.den := by unfold trD; simp
theorem trD_nil (p q : Rat) : trD p q 1 0 = (p.den - frN p) * q.den := by unfold trD; simp
theorem tr_zero0 (p q : Rat) : trU p q 0 0 = 1 ∧ trD p q 0 0 = 1 := by unfold trU trD; simp
theorem tr_bad1 (p q : Rat) {l : List Bool} {k : Nat} (h : l[k]? = some true) : trU p q k (bads l k) * trU p q 1 1 = trU p q (k + 1) (bads l (k + 1)) ∧ trD p q k (bads l k) * trD p q 1 1 = trD p q (k + 1) (bads l (k + 1)) := by
  rw [bads_succ h, if_pos rfl, trU_one, trD_one, trU_bad, trD_bad]; exact ⟨rfl, rfl⟩
theorem tr_good1 (p q : Rat) {l : List Bool} {k : Nat} (h : l[k]? = some false) : trU p q k (bads l k) * trU p q 1 0 = trU p q (k + 1) (bads l (k + 1)) ∧ trD p q k (bads l k) * trD p q 1 0 = trD p q (k + 1) (bads l (k + 1)) := by
  have e : bads l (k + 1) = bads l k := by rw [bads_succ h]; rfl
  rw [e, trU_nil, trD_nil, trU_good _ _ (bads_le l k), trD_good _ _ (bads_le l k)]; exact ⟨rfl, rfl⟩
theorem ver_hl (p q r0 r1 : Rat) (l : List Bool) (k : Nat) : verK p q r0 r1 l k = if hiT r0 (trU p q k (bads l k)) (trD p q k (bads l k)) = true then 2 else if loT r1 (trU p q k (bads l k)) (trD p q k (bads l k)) = true then 1 else 3 := rfl
set_option maxHeartbeats 8000000 in
set_option maxRecDepth 100000 in
theorem rJudge_any (S0 S1 S2 S3 S4 S5 S6 S7 : ByteArray) (A : Option Addr) (c : Nat) (l : List Bool) (w : World) (z0 : S0.size ≤ 9223372036854775800) (z1 : S1.size ≤ 9223372036854775800) (z2 : S2.size ≤ 9223372036854775800) (z3 : S3.size ≤ 9223372036854775800) (z4 : S4.size ≤ 9223372036854775800) (z5 : S5.size ≤ 9223372036854775800) (z6 : S6.size ≤ 9223372036854775800) (z7 : S7.size ≤ 9223372036854775800) (hrd : Rd w 0 w.heap.size 1 A l.length (bls l)) (hlm : l.length ≤ 9223372036854775807) :
    Calls Tryz.prog 27 #[.agg #[.string S0, .string S1, .string S2, .string S3, .string S4, .string S5, .string S6, .string S7], .slice A l.length c] w fun e w' => e = .returned (jgV (TL S0 S1 S2 S3 S4 S5 S6 S7) (prQ (S0, S1)) (prQ (S2, S3)) (prQ (S4, S5)) (prQ (S6, S7)) l) ∧ Below w.heap.size w w' := by
  obtain ⟨L, hL⟩ : ∃ L, L = TL S0 S1 S2 S3 S4 S5 S6 S7 := ⟨_, rfl⟩
  have hok := tr_ok (S0 := S0) (S1 := S1) (S2 := S2) (S3 := S3) (S4 := S4) (S5 := S5) (S6 := S6) (S7 := S7)
  have hcr := tr_cRt (S0 := S0) (S1 := S1) (S2 := S2) (S3 := S3) (S4 := S4) (S5 := S5) (S6 := S6) (S7 := S7)
  have HCT := Lib.hid (fun W => rCheckTrial_any S0 S1 S2 S3 S4 S5 S6 S7 W z0 z1 z2 z3 z4 z5 z6 z7)
  rw [← hL] at hok hcr HCT ⊢
  have HPE := Lib.hid (show ∃ a b c d, a = prQ (S0, S1) ∧ b = prQ (S2, S3) ∧ c = prQ (S4, S5) ∧ d = prQ (S6, S7) from ⟨_, _, _, _, rfl, rfl, rfl, rfl⟩)
  obtain ⟨p, hp⟩ : ∃ q, q = prQ (S0, S1) := ⟨_, rfl⟩
  obtain ⟨q, hq⟩ : ∃ r, r = prQ (S2, S3) := ⟨_, rfl⟩
  obtain ⟨r0, hr0⟩ : ∃ q, q = prQ (S4, S5) := ⟨_, rfl⟩
  obtain ⟨r1, hr1⟩ : ∃ q, q = prQ (S6, S7) := ⟨_, rfl⟩
  rw [← hp, ← hq] at hcr HCT
  rw [← hp, ← hq, ← hr0, ← hr1] at hok ⊢
  have HV1 := Lib.hid (jgV_tr (L := L) (p := p) (q := q) (r0 := r0) (r1 := r1) (l := l))
  have HV2 := Lib.hid (jgV_sz (L := L) (p := p) (q := q) (r0 := r0) (r1 := r1) (l := l))
  have HV3 := Lib.hid (fun h h2 i => jgV_some (L := L) (p := p) (q := q) (r0 := r0) (r1 := r1) (l := l) h h2 (i := i))
  have HV4 := Lib.hid (jgV_none (L := L) (p := p) (q := q) (r0 := r0) (r1 := r1) (l := l))
  obtain ⟨C, hC⟩ : ∃ c, c = trCode L p q := ⟨_, rfl⟩
  obtain ⟨V, hV⟩ : ∃ c, c = jgV L p q r0 r1 l := ⟨_, rfl⟩
  rw [← hC] at HCT HV1 HV2 HV3 HV4 hok hcr
  rw [← hV] at HV1 HV2 HV3 HV4 ⊢
  obtain ⟨W0, hW0⟩ : ∃ W0, W0 = w.alloc (.cells #[.string S0, .string S1, .string S2, .string S3, .string S4, .string S5, .string S6, .string S7] 36) := ⟨_, rfl⟩
  have HST0 := Lib.hid (show St w W0 [(w.heap.size, .cells #[.string S0, .string S1, .string S2, .string S3, .string S4, .string S5, .string S6, .string S7] 36 (0, 0))] by rw [hW0]; exact (St.start w).alloc _ _ rfl)
  have HK := Lib.hid (show ∀ X, Below W0.heap.size W0 X → X.cell? ⟨w.heap.size, 0, none⟩ = some (.string S0) ∧ X.cell? ⟨w.heap.size, 1, none⟩ = some (.string S1) ∧ X.cell? ⟨w.heap.size, 2, none⟩ = some (.string S2) ∧ X.cell? ⟨w.heap.size, 3, none⟩ = some (.string S3) ∧ X.cell? ⟨w.heap.size, 4, none⟩ = some (.string S4) ∧ X.cell? ⟨w.heap.size, 5, none⟩ = some (.string S5) ∧ X.cell? ⟨w.heap.size, 6, none⟩ = some (.string S6) ∧ X.cell? ⟨w.heap.size, 7, none⟩ = some (.string S7) from fun X hX => ⟨(HST0.out.call hX).cell 0 0 rfl rfl, (HST0.out.call hX).cell 0 1 rfl rfl, (HST0.out.call hX).cell 0 2 rfl rfl, (HST0.out.call hX).cell 0 3 rfl rfl, (HST0.out.call hX).cell 0 4 rfl rfl, (HST0.out.call hX).cell 0 5 rfl rfl, (HST0.out.call hX).cell 0 6 rfl rfl, (HST0.out.call hX).cell 0 7 rfl rfl⟩)
  obtain ⟨p0, p1, p2, p3, p4, p5, p6, p7⟩ := HK.out W0 (Below.refl _ _)
  have HPQ := Lib.hid (And.intro hp.symm (And.intro hq.symm (And.intro hr0.symm hr1.symm)))
  have HRD := Lib.hid hrd
  clear hL hp hq hr0 hr1 hC hV HPE z0 z1 z2 z3 z4 z5 z6 z7 hrd
  by_cases hz : C = 0
  · have t1 : (C != 0) = false := by rw [hz]; rfl
    have HZ := Lib.hid hz
    have ok := hok hz
    obtain ⟨k0, k1, k2, k3⟩ := hcr hz
    by_cases hr : 2000 < l.length
    · have HD := Lib.hid (HV2.out hz hr)
      have t2 : decide ((2000 : Int) < (l.length : Int)) = true := decide_eq_true (by omega)
      clear hz hr hok hcr k0 k1 k2 k3 ok
      go_enter Tryz.func27, Tryz.ntmps27
      go_wp2_with fail
      rw [← hW0]
      clear hW0
      (with_reducible refine (HCT.out _).mono ?_)
      rintro e w1 ⟨rfl, hb1⟩
      have HB := Lib.hid (below_next HST0.out.below hb1)
      clear hb1 p0 p1 p2 p3 p4 p5 p6 p7
      go_wp2
      refine bodyPost_ret (v := .tuple #[.int .i64 0, .int .i64 0, .int .i64 3]) (by simp [results, Tryz.results27, go_sem]) rfl ⟨by rw [HD.out], HB.out⟩
    · have t2 : decide ((2000 : Int) < (l.length : Int)) = false := decide_eq_false (by omega)
      have hl2 : l.length ≤ 2000 := by omega
      have HSOME := Lib.hid (fun i => HV3.out hz hl2 i)
      have HNONE := Lib.hid (HV4.out hz hl2)
      have HSD1 := Lib.hid (fun W => rSides_any S0 S1 S2 S3 S4 S5 S6 S7 1 1 p q W HPQ.out.1 HPQ.out.2.1 k0 k1 ok.g ok.s (by omega) (by omega))
      have HSD0 := Lib.hid (fun W => rSides_any S0 S1 S2 S3 S4 S5 S6 S7 1 0 p q W HPQ.out.1 HPQ.out.2.1 k0 k1 ok.g ok.s (by omega) (by omega))
      obtain ⟨K, hK⟩ : ∃ K : Nat, K = 16002 := ⟨_, rfl⟩
      have HTT := Lib.hid (show ∀ n f, f ≤ n → n ≤ 2000 → trU p q n f < T4 ^ K ∧ trD p q n f < T4 ^ K from fun n f hf hn => by rw [hK]; exact tr_T4 ok.g ok.s hf hn)
      have hq0 : frN r0 < 1000000 := by have := ok.a1; have := ok.a2; omega
      have hq1 : frN r1 < 1000000 := by have := ok.b1; have := ok.b2; omega
      have hq2 : K ≤ 100000 := by omega
      have HHIA := Lib.hid (fun x y (hx : x < T4 ^ K) (hy : y < T4 ^ K) W A1 A2 c1 c2 l1 l2 (h1 : RNatR W A1 c1 l1 x) (h2 : RNatR W A2 c2 l2 y) => rHigh_any S0 S1 S2 S3 S4 S5 S6 S7 A1 A2 c1 c2 l1 l2 x y K r0 W HPQ.out.2.2.1 k2 ok.a2 hq0 h1 h2 hx hy hq2)
      have HLOA := Lib.hid (fun x y (hx : x < T4 ^ K) (hy : y < T4 ^ K) W A1 A2 c1 c2 l1 l2 (h1 : RNatR W A1 c1 l1 x) (h2 : RNatR W A2 c2 l2 y) => rLow_any S0 S1 S2 S3 S4 S5 S6 S7 A1 A2 c1 c2 l1 l2 x y K r1 W HPQ.out.2.2.2 k3 ok.b2 hq1 h1 h2 hx hy hq2)
      have HO1 := Lib.hid (fun W => rnatOf_any 1 W (by omega))
      rw [show (1 : Int).toNat = 1 from rfl] at HO1
      unfold RPairPost at HSD1 HSD0
      rw [show ((1 : Nat) : Int) = (1 : Int) from rfl] at HSD1 HSD0
      rw [show ((0 : Nat) : Int) = (0 : Int) from rfl] at HSD0
      clear hz hr hok hcr k0 k1 k2 k3 ok HV1 HV2 HV3 HV4
      go_enter Tryz.func27, Tryz.ntmps27
      go_wp2_with fail
      rw [← hW0]
      clear hW0
      (with_reducible refine (HCT.out _).mono ?_)
      rintro e w1 ⟨rfl, hb1⟩
      have HB1 := Lib.hid hb1
      clear hb1 p0 p1 p2 p3 p4 p5 p6 p7
      obtain ⟨p0, p1, p2, p3, p4, p5, p6, p7⟩ := HK.out w1 HB1.out
      go_wp2_with fail
      (with_reducible refine (HSD1.out _).mono ?_)
      rintro e w2 ⟨Aa, ca, la, Ab, cb, lb, rfl, na, nb, hb2⟩
      have HNA := Lib.hid (And.intro na nb)
      have HB2 := Lib.hid (below_next HB1.out hb2)
      clear na nb hb2 p0 p1 p2 p3 p4 p5 p6 p7
      obtain ⟨p0, p1, p2, p3, p4, p5, p6, p7⟩ := HK.out w2 HB2.out
      go_wp2_with fail
      (with_reducible refine (HSD0.out _).mono ?_)
      rintro e w3 ⟨Ac, cc, lc, Ad, cd, ld, rfl, nc, nd, hb3⟩
      have HNA3 := Lib.hid (And.intro (HNA.out.1.on hb3) (HNA.out.2.on hb3))
      have HNC := Lib.hid (And.intro nc nd)
      have HB3 := Lib.hid (below_next HB2.out hb3)
      clear nc nd hb3 p0 p1 p2 p3 p4 p5 p6 p7
      go_wp2_with fail
      (with_reducible refine (HO1.out _).mono ?_)
      rintro e w4 ⟨A8, c8, l8, rfl, n8, hb4⟩
      have HN8 := Lib.hid n8
      have HB34 := Lib.hid hb4
      clear n8 hb4
      go_wp2_with fail
      (with_reducible refine (HO1.out _).mono ?_)
      rintro e w5 ⟨A9, c9, l9, rfl, n9, hb5⟩
      have HB35 := Lib.hid (below_next HB34.out hb5)
      have HBS := Lib.hid (below_next HB3.out HB35.out)
      have HN89 := Lib.hid (And.intro (HN8.out.on hb5) n9)
      have HNBAD := Lib.hid (And.intro (HNA3.out.1.on HB35.out) (HNA3.out.2.on HB35.out))
      have HNGOOD := Lib.hid (And.intro (HNC.out.1.on HB35.out) (HNC.out.2.on HB35.out))
      have HLB := Lib.hid (show la.length ≤ 16002 ∧ lb.length ≤ 16002 ∧ lc.length ≤ 16002 ∧ ld.length ≤ 16002 from ⟨Nat.le_trans (HNBAD.out.1.len (HTT.out 1 1 (by omega) (by omega)).1) (Nat.le_of_eq hK), Nat.le_trans (HNBAD.out.2.len (HTT.out 1 1 (by omega) (by omega)).2) (Nat.le_of_eq hK), Nat.le_trans (HNGOOD.out.1.len (HTT.out 1 0 (by omega) (by omega)).1) (Nat.le_of_eq hK), Nat.le_trans (HNGOOD.out.2.len (HTT.out 1 0 (by omega) (by omega)).2) (Nat.le_of_eq hK)⟩)
      clear n9 hb5
      go_wp2
      go_loopw [12, 13, 14] (fun xv yv kv wr => ∃ k : Nat, kv = .int .i64 ((k : Int) + 1) ∧ k ≤ l.length ∧ (∃ A5 c5 l5 A6 c6 l6, xv = .slice A5 (l5 : List Nat).length c5 ∧ yv = .slice A6 (l6 : List Nat).length c6 ∧ RNatR wr A5 c5 l5 (trU p q k (bads l k)) ∧ RNatR wr A6 c6 l6 (trD p q k (bads l k))) ∧ (∀ j, j < k → verK p q r0 r1 l (j + 1) = 3) ∧ Below w5.heap.size w5 wr) (fun _ _ kv _ => l.length + 1 - (intOf kv).toNat)
      case atStart => exact ⟨0, by first | rfl | simp, by omega, ⟨A8, c8, l8, A9, c9, l9, rfl, rfl, by rw [show bads l 0 = 0 by simp [bads], (tr_zero0 p q).1]; exact HN89.out.1, by rw [show bads l 0 = 0 by simp [bads], (tr_zero0 p q).2]; exact HN89.out.2⟩, fun j hj => by omega, Below.refl _ _⟩
      case round =>
        obtain ⟨k, rfl, hk, ⟨Ax, cx, lx, Ay, cy, ly, rfl, rfl, nx, ny⟩, hall, hbw⟩ := hrel
        have HBW := Lib.hid hbw
        have HALL := Lib.hid hall
        by_cases hlt : k < l.length
        · obtain ⟨bb, oo, z, rfl, hzz, hcz⟩ := bls_at (((HRD.out.old HST0.out.below).old HBS.out).old hbw) hlt
          have hbl := bads_le l k
          have htk := HTT.out k (bads l k) hbl (by omega)
          have hbl1 := bads_le l (k + 1)
          have htk1 := HTT.out (k + 1) (bads l (k + 1)) hbl1 (by omega)
          have HLX := Lib.hid (show lx.length ≤ 16002 ∧ ly.length ≤ 16002 from ⟨Nat.le_trans (nx.len htk.1) (Nat.le_of_eq hK), Nat.le_trans (ny.len htk.2) (Nat.le_of_eq hK)⟩)
          have HNX := Lib.hid (And.intro nx ny)
          have hkk : (k : Int) + 1 - 1 = (k : Int) := by omega
          have HHI := Lib.hid (HHIA.out _ _ htk1.1 htk1.2)
          have HLO := Lib.hid (HLOA.out _ _ htk1.1 htk1.2)
          have hvk := ver_hl p q r0 r1 l (k + 1)
          obtain ⟨th, hth⟩ : ∃ t, t = hiT r0 (trU p q (k + 1) (bads l (k + 1))) (trD p q (k + 1) (bads l (k + 1))) := ⟨_, rfl⟩
          obtain ⟨tl, htl⟩ : ∃ t, t = loT r1 (trU p q (k + 1) (bads l (k + 1))) (trD p q (k + 1) (bads l (k + 1))) := ⟨_, rfl⟩
          rw [← hth] at HHI hvk
          rw [← htl] at HLO hvk
          have HVK := Lib.hid hvk
          clear hth htl hvk hbl hbl1 htk htk1 nx ny hall hbw
          cases z with
          | false =>
            have HGOODE := Lib.hid (tr_good1 p q hzz)
            have HGOODN := HNGOOD
            clear hzz
            have HM1 := Lib.hid (fun W (hb : Below wr.heap.size wr W) => rnatMul_any Ax Ac cx cc lx lc _ _ W (HNX.out.1.on hb) (HGOODN.out.1.on (below_next HBW.out hb)) (by have := HLX.out; omega) (by have := HLB.out; omega))
            have HM2 := Lib.hid (fun W (hb : Below wr.heap.size wr W) => rnatMul_any Ay Ad cy cd ly ld _ _ W (HNX.out.2.on hb) (HGOODN.out.2.on (below_next HBW.out hb)) (by have := HLX.out; omega) (by have := HLB.out; omega))
            rw [HGOODE.out.1] at HM1
            rw [HGOODE.out.2] at HM2
            go_wp2_with fail
            (with_reducible refine (HM1.out wr (Below.refl _ _)).mono ?_)
            rintro e w2 ⟨A5, c5, l5, rfl, hn5, hb2⟩
            have HN5 := Lib.hid hn5
            have HB2 := Lib.hid hb2
            clear hn5 hb2 HM1
            go_wp2_with fail
            (with_reducible refine (HM2.out w2 HB2.out).mono ?_)
            rintro e w3 ⟨A6, c6, l6, rfl, hn6, hb3⟩
            have HN56 := Lib.hid (And.intro (HN5.out.on hb3) hn6)
            have HB3 := Lib.hid (below_next HBW.out (below_next HB2.out hb3))
            clear hn6 hb3 HM2
            obtain ⟨p0, p1, p2, p3, p4, p5, p6, p7⟩ := HK.out w3 (below_next HBS.out HB3.out)
            go_wp2_with fail
            (with_reducible refine (HHI.out _ _ _ _ _ _ _ HN56.out.1 HN56.out.2).mono ?_)
            rintro e w4 ⟨rfl, hb4⟩
            have HB4 := Lib.hid (below_next HB3.out hb4)
            have HN4 := Lib.hid (And.intro (HN56.out.1.on hb4) (HN56.out.2.on hb4))
            clear hb4 p0 p1 p2 p3 p4 p5 p6 p7
            obtain ⟨p0, p1, p2, p3, p4, p5, p6, p7⟩ := HK.out w4 (below_next HBS.out HB4.out)
            cases th with
            | true =>
              have HVF := Lib.hid (HSOME.out k HALL.out hlt (by rw [HVK.out]; simp))
              have hvf := HVF.out
              rw [HVK.out] at hvf
              have HVF2 := Lib.hid (show V = .tuple #[.int .i64 2, .int .i64 ((k : Int) + 1), .int .i64 0] from hvf)
              clear hvf p0 p1 p2 p3 p4 p5 p6 p7
              go_wp2
              refine bodyPost_ret (v := .tuple #[.int .i64 2, .int .i64 ((k : Int) + 1), .int .i64 0]) (by simp [results, Tryz.results27, go_sem]) rfl ⟨by rw [HVF2.out], below_next HST0.out.below (below_next HBS.out HB4.out)⟩
            | false =>
              go_wp2_with fail
              (with_reducible refine (HLO.out _ _ _ _ _ _ _ HN4.out.1 HN4.out.2).mono ?_)
              rintro e w5 ⟨rfl, hb5⟩
              have HB5 := Lib.hid (below_next HB4.out hb5)
              have HN5' := Lib.hid (And.intro (HN4.out.1.on hb5) (HN4.out.2.on hb5))
              clear hb5 p0 p1 p2 p3 p4 p5 p6 p7
              cases tl with
              | true =>
                have HVF := Lib.hid (HSOME.out k HALL.out hlt (by rw [HVK.out]; simp))
                have hvf := HVF.out
                rw [HVK.out] at hvf
                have HVF2 := Lib.hid (show V = .tuple #[.int .i64 1, .int .i64 ((k : Int) + 1), .int .i64 0] from hvf)
                clear hvf
                go_wp2
                refine bodyPost_ret (v := .tuple #[.int .i64 1, .int .i64 ((k : Int) + 1), .int .i64 0]) (by simp [results, Tryz.results27, go_sem]) rfl ⟨by rw [HVF2.out], below_next HST0.out.below (below_next HBS.out HB5.out)⟩
              | false =>
                have HV3 := Lib.hid (show verK p q r0 r1 l (k + 1) = 3 from by rw [HVK.out]; rfl)
                go_wp2
                go_roundw
                case rel => exact ⟨k + 1, by first | rfl | simp | go_num, by omega, ⟨A5, c5, l5, A6, c6, l6, rfl, rfl, HN5'.out.1, HN5'.out.2⟩, fun j hj => by
                  rcases Nat.lt_or_ge j k with g | g
                  · exact HALL.out j g
                  · obtain rfl : j = k := by omega
                    exact HV3.out, HB5.out⟩
                case measure => simp [intOf]; omega
          | true =>
            have HBADE := Lib.hid (tr_bad1 p q hzz)
            have HBADN := HNBAD
            clear hzz
            have HM1 := Lib.hid (fun W (hb : Below wr.heap.size wr W) => rnatMul_any Ax Aa cx ca lx la _ _ W (HNX.out.1.on hb) (HBADN.out.1.on (below_next HBW.out hb)) (by have := HLX.out; omega) (by have := HLB.out; omega))
            have HM2 := Lib.hid (fun W (hb : Below wr.heap.size wr W) => rnatMul_any Ay Ab cy cb ly lb _ _ W (HNX.out.2.on hb) (HBADN.out.2.on (below_next HBW.out hb)) (by have := HLX.out; omega) (by have := HLB.out; omega))
            rw [HBADE.out.1] at HM1
            rw [HBADE.out.2] at HM2
            go_wp2_with fail
            (with_reducible refine (HM1.out wr (Below.refl _ _)).mono ?_)
            rintro e w2 ⟨A5, c5, l5, rfl, hn5, hb2⟩
            have HN5 := Lib.hid hn5
            have HB2 := Lib.hid hb2
            clear hn5 hb2 HM1
            go_wp2_with fail
            (with_reducible refine (HM2.out w2 HB2.out).mono ?_)
            rintro e w3 ⟨A6, c6, l6, rfl, hn6, hb3⟩
            have HN56 := Lib.hid (And.intro (HN5.out.on hb3) hn6)
            have HB3 := Lib.hid (below_next HBW.out (below_next HB2.out hb3))
            clear hn6 hb3 HM2
            obtain ⟨p0, p1, p2, p3, p4, p5, p6, p7⟩ := HK.out w3 (below_next HBS.out HB3.out)
            go_wp2_with fail
            (with_reducible refine (HHI.out _ _ _ _ _ _ _ HN56.out.1 HN56.out.2).mono ?_)
            rintro e w4 ⟨rfl, hb4⟩
            have HB4 := Lib.hid (below_next HB3.out hb4)
            have HN4 := Lib.hid (And.intro (HN56.out.1.on hb4) (HN56.out.2.on hb4))
            clear hb4 p0 p1 p2 p3 p4 p5 p6 p7
            obtain ⟨p0, p1, p2, p3, p4, p5, p6, p7⟩ := HK.out w4 (below_next HBS.out HB4.out)
            cases th with
            | true =>
              have HVF := Lib.hid (HSOME.out k HALL.out hlt (by rw [HVK.out]; simp))
              have hvf := HVF.out
              rw [HVK.out] at hvf
              have HVF2 := Lib.hid (show V = .tuple #[.int .i64 2, .int .i64 ((k : Int) + 1), .int .i64 0] from hvf)
              clear hvf p0 p1 p2 p3 p4 p5 p6 p7
              go_wp2
              refine bodyPost_ret (v := .tuple #[.int .i64 2, .int .i64 ((k : Int) + 1), .int .i64 0]) (by simp [results, Tryz.results27, go_sem]) rfl ⟨by rw [HVF2.out], below_next HST0.out.below (below_next HBS.out HB4.out)⟩
            | false =>
              go_wp2_with fail
              (with_reducible refine (HLO.out _ _ _ _ _ _ _ HN4.out.1 HN4.out.2).mono ?_)
              rintro e w5 ⟨rfl, hb5⟩
              have HB5 := Lib.hid (below_next HB4.out hb5)
              have HN5' := Lib.hid (And.intro (HN4.out.1.on hb5) (HN4.out.2.on hb5))
              clear hb5 p0 p1 p2 p3 p4 p5 p6 p7
              cases tl with
              | true =>
                have HVF := Lib.hid (HSOME.out k HALL.out hlt (by rw [HVK.out]; simp))
                have hvf := HVF.out
                rw [HVK.out] at hvf
                have HVF2 := Lib.hid (show V = .tuple #[.int .i64 1, .int .i64 ((k : Int) + 1), .int .i64 0] from hvf)
                clear hvf
                go_wp2
                refine bodyPost_ret (v := .tuple #[.int .i64 1, .int .i64 ((k : Int) + 1), .int .i64 0]) (by simp [results, Tryz.results27, go_sem]) rfl ⟨by rw [HVF2.out], below_next HST0.out.below (below_next HBS.out HB5.out)⟩
              | false =>
                have HV3 := Lib.hid (show verK p q r0 r1 l (k + 1) = 3 from by rw [HVK.out]; rfl)
                go_wp2
                go_roundw
                case rel => exact ⟨k + 1, by first | rfl | simp | go_num, by omega, ⟨A5, c5, l5, A6, c6, l6, rfl, rfl, HN5'.out.1, HN5'.out.2⟩, fun j hj => by
                  rcases Nat.lt_or_ge j k with g | g
                  · exact HALL.out j g
                  · obtain rfl : j = k := by omega
                    exact HV3.out, HB5.out⟩
                case measure => simp [intOf]; omega
        · obtain rfl : k = l.length := by omega
          have HVF := Lib.hid (HNONE.out HALL.out)
          clear nx ny hall hbw
          go_wp2
          refine bodyPost_ret (v := .tuple #[.int .i64 3, .int .i64 (l.length : Nat), .int .i64 0]) (by simp [results, Tryz.results27, go_sem]) rfl ⟨by rw [HVF.out], below_next HST0.out.below (below_next HBS.out HBW.out)⟩
  · have HD := Lib.hid (HV1.out hz)
    have t1 : (C != 0) = true := by rw [bne_iff_ne]; exact hz
    clear hz hok hcr
    go_enter Tryz.func27, Tryz.ntmps27
    go_wp2_with fail
    rw [← hW0]
    clear hW0
    (with_reducible refine (HCT.out _).mono ?_)
    rintro e w1 ⟨rfl, hb1⟩
    have HB := Lib.hid (below_next HST0.out.below hb1)
    clear hb1 p0 p1 p2 p3 p4 p5 p6 p7
    go_wp2
    refine bodyPost_ret (v := .tuple #[.int .i64 0, .int .i64 0, .int .i64 C]) (by simp [results, Tryz.results27, go_sem]) rfl ⟨by rw [HD.out], HB.out⟩
end Go.Proofs.YtnapdhfkgfjjfaaGreatDoor
