import Derived.Test.YtnapdhfkgfjjfaaGreatDoorJTrlP
import Derived.Test.YtnapdhfkgfjjfaaGreatDoorG36
import Derived.Test.YtnapdhfkgfjjfaaGreatDoorJJud
import Derived.Test.YtnapdhfkgfjjfaaGreatDoorCards
import Derived.Test.YtnapdhfkgfjjfaaGreatDoorTie
import Derived.Test.YtnapdhfkgfjjfaaGreatDoorG44
import Derived.Test.YtnapdhfkgfjjfaaGreatDoorG26
import Derived.Lay
import Derived.WalkKit
import Derived.ProofKit
import Derived.OpenShut
import Derived.Deep.DeepHandedRow
import Derived.Lib.LaidTab
/- Eight texts that are a trial: what its code tells. -/
namespace Go.Proofs.YtnapdhfkgfjjfaaGreatDoor
open Go Go.RowKit Go.Proofs

theorem tr_zero {S0 S1 S2 S3 S4 S5 S6 S7 : ByteArray} (h : trCode (TL S0 S1 S2 S3 S4 S5 S6 S7) (prQ (S0, S1)) (prQ (S2, S3)) = 0) : (∀ (j : Nat) (p : ByteArray × ByteArray), (TL S0 S1 S2 S3 S4 S5 S6 S7)[j]? = some p → shC .between p.1.data.toList p.2.data.toList = 0) ∧ ordQ (prQ (S0, S1)) (prQ (S2, S3)) < 0 := by
  unfold trCode at h
  by_cases h1 : shL (TL S0 S1 S2 S3 S4 S5 S6 S7) = 0
  · rw [if_neg (by rw [h1]; decide)] at h
    have ho : ordQ (prQ (S0, S1)) (prQ (S2, S3)) < 0 := by
      refine Classical.byContradiction fun hc => ?_
      rw [if_pos (by omega)] at h
      exact absurd h (by decide)
    refine ⟨?_, ho⟩
    intro j
    induction j using Nat.strongRecOn with
    | ind j ih =>
      intro p hp
      refine Classical.byContradiction fun hc => ?_
      have := shL_at hp (fun i q hi hq => ih i hi q hq) hc
      rw [h1] at this
      exact hc this.symm
  · rw [if_pos h1] at h
    exact absurd h h1
theorem tr_ok {S0 S1 S2 S3 S4 S5 S6 S7 : ByteArray} (h : trCode (TL S0 S1 S2 S3 S4 S5 S6 S7) (prQ (S0, S1)) (prQ (S2, S3)) = 0) : TrOk (prQ (S0, S1)) (prQ (S2, S3)) (prQ (S4, S5)) (prQ (S6, S7)) := by
  obtain ⟨hz, ho⟩ := tr_zero h
  have y0 := prQ_small (hz 0 (S0, S1) rfl)
  have y1 := prQ_small (hz 1 (S2, S3) rfl)
  have y2 := prQ_small (hz 2 (S4, S5) rfl)
  have y3 := prQ_small (hz 3 (S6, S7) rfl)
  exact ⟨⟨y0.1, y0.2.1, y1.1, y1.2.1, ord_cross y0.2.2.2 y1.2.2.2 ho⟩, ⟨y0.2.2.1, y1.2.2.1⟩, y2.1, y2.2.1, y2.2.2.1, y3.1, y3.2.1, y3.2.2.1⟩
end Go.Proofs.YtnapdhfkgfjjfaaGreatDoor

/- JudgeFollowsBounds: the law's walk. Printed by gen_lawfol.py. -/
namespace Go.Proofs.YtnapdhfkgfjjfaaGreatDoor
open Go Go.RowKit Go.Proofs

theorem jgC_zero {L : List (ByteArray × ByteArray)} {p q : Rat} {n : Nat} (h : jgC L p q n = 0) : trCode L p q = 0 ∧ n ≤ 2000 := by
  unfold jgC at h
  by_cases h1 : trCode L p q = 0
  · rw [if_neg (by rw [h1]; decide)] at h
    refine ⟨h1, Classical.byContradiction fun hc => ?_⟩
    rw [if_pos (by omega)] at h
    exact absurd h (by decide)
  · rw [if_pos h1] at h
    exact absurd h h1
theorem fol_hi {p q r0 r1 : Rat} (h : TrOk p q r0 r1) {l : List Bool} {n : Nat} {b : Int} (hb : HiAt p q r0 n b) : (b ≤ (bads l n : Nat) ↔ verK p q r0 r1 l n = 2) :=
  (hb.2.2 _ (bads_le l n)).trans (ver_one (r1 := r1) h.g h.a0 h.a1 h.b0 h.b1 n (bads l n)).1.symm
theorem fol_lo {p q r0 r1 : Rat} (h : TrOk p q r0 r1) {l : List Bool} {n : Nat} {a : Int} (ha : LoAt p q r1 n a) : (((bads l n : Nat) : Int) ≤ a ↔ verK p q r0 r1 l n = 1) :=
  (ha.2.2 _ (bads_le l n)).trans (ver_one (r0 := r0) h.g h.a0 h.a1 h.b0 h.b1 n (bads l n)).2.symm
set_option maxHeartbeats 8000000 in
set_option maxRecDepth 100000 in
theorem lawFol_any (S0 S1 S2 S3 S4 S5 S6 S7 : ByteArray) (A : Option Addr) (c : Nat) (l : List Bool) (w : World) (htab : Tab w.heap.size w) (z0 : S0.size ≤ 9223372036854775800) (z1 : S1.size ≤ 9223372036854775800) (z2 : S2.size ≤ 9223372036854775800) (z3 : S3.size ≤ 9223372036854775800) (z4 : S4.size ≤ 9223372036854775800) (z5 : S5.size ≤ 9223372036854775800) (z6 : S6.size ≤ 9223372036854775800) (z7 : S7.size ≤ 9223372036854775800) (hrd : Rd w 0 w.heap.size 1 A l.length (bls l)) (hlm : l.length ≤ 9223372036854775807) :
    Calls Tryz.prog 7 #[.agg #[.string S0, .string S1, .string S2, .string S3, .string S4, .string S5, .string S6, .string S7], .slice A l.length c] w fun e w' => e = .returned (.bool true) ∧ Below w.heap.size w w' := by
  have HH := Lib.hid (fun W (hW : Below w.heap.size w W) => halves_any W ((htab.on hW).mono hW.size))
  have HJ := Lib.hid (fun W (hW : Below w.heap.size w W) => jJudge_any S0 S1 S2 S3 S4 S5 S6 S7 A c l W z0 z1 z2 z3 z4 z5 z6 z7 (hrd.old hW) hlm)
  have hok := tr_ok (S0 := S0) (S1 := S1) (S2 := S2) (S3 := S3) (S4 := S4) (S5 := S5) (S6 := S6) (S7 := S7)
  have HBP := Lib.hid (fun n W => jBoundsP_any S0 S1 S2 S3 S4 S5 S6 S7 n W z0 z1 z2 z3 z4 z5 z6 z7)
  obtain ⟨L, hL⟩ : ∃ L, L = TL S0 S1 S2 S3 S4 S5 S6 S7 := ⟨_, rfl⟩
  obtain ⟨p, hp⟩ : ∃ q, q = prQ (S0, S1) := ⟨_, rfl⟩
  obtain ⟨q, hq⟩ : ∃ r, r = prQ (S2, S3) := ⟨_, rfl⟩
  obtain ⟨r0, hr0⟩ : ∃ q, q = prQ (S4, S5) := ⟨_, rfl⟩
  obtain ⟨r1, hr1⟩ : ∃ q, q = prQ (S6, S7) := ⟨_, rfl⟩
  rw [← hL, ← hp, ← hq, ← hr0, ← hr1] at HJ HBP hok
  obtain ⟨W0, hW0⟩ : ∃ W0, W0 = w.alloc (.cells #[.string S0, .string S1, .string S2, .string S3, .string S4, .string S5, .string S6, .string S7] 36) := ⟨_, rfl⟩
  have HST0 := Lib.hid (show St w W0 [(w.heap.size, .cells #[.string S0, .string S1, .string S2, .string S3, .string S4, .string S5, .string S6, .string S7] 36 (0, 0))] by rw [hW0]; exact (St.start w).alloc _ _ rfl)
  have p0 : W0.cell? ⟨w.heap.size, 0, none⟩ = some (.string S0) := (HST0.out.call (Below.refl _ _)).cell 0 0 rfl rfl
  have p1 : W0.cell? ⟨w.heap.size, 1, none⟩ = some (.string S1) := (HST0.out.call (Below.refl _ _)).cell 0 1 rfl rfl
  have p2 : W0.cell? ⟨w.heap.size, 2, none⟩ = some (.string S2) := (HST0.out.call (Below.refl _ _)).cell 0 2 rfl rfl
  have p3 : W0.cell? ⟨w.heap.size, 3, none⟩ = some (.string S3) := (HST0.out.call (Below.refl _ _)).cell 0 3 rfl rfl
  have p4 : W0.cell? ⟨w.heap.size, 4, none⟩ = some (.string S4) := (HST0.out.call (Below.refl _ _)).cell 0 4 rfl rfl
  have p5 : W0.cell? ⟨w.heap.size, 5, none⟩ = some (.string S5) := (HST0.out.call (Below.refl _ _)).cell 0 5 rfl rfl
  have p6 : W0.cell? ⟨w.heap.size, 6, none⟩ = some (.string S6) := (HST0.out.call (Below.refl _ _)).cell 0 6 rfl rfl
  have p7 : W0.cell? ⟨w.heap.size, 7, none⟩ = some (.string S7) := (HST0.out.call (Below.refl _ _)).cell 0 7 rfl rfl
  have HRD := Lib.hid hrd
  clear hL hp hq hr0 hr1 z0 z1 z2 z3 z4 z5 z6 z7 htab hrd
  by_cases hc : jgC L p q l.length = 0
  · obtain ⟨hc0, hl2⟩ := jgC_zero hc
    have HOK := Lib.hid (hok hc0)
    have hvv : jgV L p q r0 r1 l = .tuple #[.int .i64 (judT p q r0 r1 l).1, .int .i64 (judT p q r0 r1 l).2, .int .i64 0] := by unfold jgV; rw [if_neg (by omega)]
    rw [hvv] at HJ
    have HSOME := Lib.hid (show ∀ i, (∀ j, j < i → verK p q r0 r1 l (j + 1) = 3) → i < l.length → verK p q r0 r1 l (i + 1) ≠ 3 → (judT p q r0 r1 l).1 = verK p q r0 r1 l (i + 1) ∧ (judT p q r0 r1 l).2 = (i : Int) + 1 from fun i h1 h2 h3 => by
      have := jud_some (m := l.length) (k := 0) (fun j _ hj => h1 j hj) (Nat.zero_le _) (by omega) h3
      unfold judT; rw [this]; exact ⟨rfl, by simp⟩)
    have HNONE := Lib.hid (show (∀ j, j < l.length → verK p q r0 r1 l (j + 1) = 3) → (judT p q r0 r1 l).1 = 3 ∧ (judT p q r0 r1 l).2 = (l.length : Int) from fun h1 => by
      have := jud_none (m := l.length) (k := 0) (p := p) (q := q) (r0 := r0) (r1 := r1) (l := l) (fun j _ hj => h1 j (by omega))
      unfold judT; rw [this]; simp)
    obtain ⟨V, hV⟩ : ∃ v, v = (judT p q r0 r1 l).1 := ⟨_, rfl⟩
    obtain ⟨T, hT⟩ : ∃ v, v = (judT p q r0 r1 l).2 := ⟨_, rfl⟩
    rw [← hV, ← hT] at HSOME HNONE HJ
    clear hV hT hvv hok hc
    by_cases hl : 100 < l.length
    · have t1 : decide ((100 : Int) < (l.length : Int)) = true := decide_eq_true (by omega)
      clear hl
      go_enter Tryz.func7, Tryz.ntmps7
      go_wp2_with fail
      rw [← hW0]
      clear hW0
      (with_reducible refine (HJ.out W0 HST0.out.below).mono ?_)
      rintro e w1 ⟨rfl, hb1⟩
      have HB1 := Lib.hid (below_next HST0.out.below hb1)
      have HB01 := Lib.hid hb1
      clear hb1 p0 p1 p2 p3 p4 p5 p6 p7
      go_wp2_with fail
      (with_reducible refine (HH.out _ (HB1.out)).mono ?_)
      rintro e wh ⟨rfl, hbh⟩
      have HBH := Lib.hid (below_next (HB1.out) hbh)
      clear hbh
      go_wp2
      go_ret
      exact ⟨by rfl, HBH.out⟩
    · have t1 : decide ((100 : Int) < (l.length : Int)) = false := decide_eq_false (by omega)
      have HBN := Lib.hid (show ∀ k : Nat, k < l.length → ∀ W, Below W0.heap.size W0 W → Calls Tryz.prog 23 #[.agg #[.string S0, .string S1, .string S2, .string S3, .string S4, .string S5, .string S6, .string S7], .int .i64 ((k : Int) + 1)] W fun e w' => ∃ a b : Int, e = .returned (.tuple #[.int .i64 a, .int .i64 b, .int .i64 0]) ∧ LoAt p q r1 (k + 1) a ∧ HiAt p q r0 (k + 1) b ∧ Below W.heap.size W w' from fun k hk W hW => (HBP.out ((k : Int) + 1) W).mono fun e w' h => by
        have hz : bnC L p q ((k : Int) + 1) = 0 := bnC_ok hc0 (by omega)
        rcases h with ⟨h1, _⟩ | ⟨_, a, b, h2, h3, h4, h5⟩
        · exact absurd hz h1
        · rw [show ((k : Int) + 1).toNat = k + 1 by omega] at h3 h4
          exact ⟨a, b, h2, h3, h4, h5⟩)
      go_enter Tryz.func7, Tryz.ntmps7
      go_wp2_with fail
      rw [← hW0]
      clear hW0
      (with_reducible refine (HJ.out W0 HST0.out.below).mono ?_)
      rintro e w1 ⟨rfl, hb1⟩
      have HB1 := Lib.hid (below_next HST0.out.below hb1)
      have HB01 := Lib.hid hb1
      clear hb1 p0 p1 p2 p3 p4 p5 p6 p7
      go_wp2
      go_loopw [8, 9] (fun fv nv wr => ∃ k : Nat, fv = .int .i64 (bads l k : Nat) ∧ nv = .int .i64 ((k : Int) + 1) ∧ k ≤ l.length ∧ (∀ j, j < k → verK p q r0 r1 l (j + 1) = 3) ∧ Below W0.heap.size W0 wr) (fun _ nv _ => l.length + 1 - (intOf nv).toNat)
      case atStart => exact ⟨0, by first | rfl | simp [bads], by first | rfl | simp, by omega, fun j hj => by omega, HB01.out⟩
      case round =>
        obtain ⟨k, rfl, rfl, hk, hall, hbw⟩ := hrel
        have HBW := Lib.hid hbw
        have HALL := Lib.hid hall
        by_cases hlt : k < l.length
        · obtain ⟨bb, oo, z, rfl, hz, hcz⟩ := bls_at ((HRD.out.old HST0.out.below).old hbw) hlt
          have hbl := bads_le l k
          have HBD := Lib.hid (HBN.out k hlt)
          have hs := bads_succ hz
          have hkk : (k : Int) + 1 - 1 = (k : Int) := by omega
          obtain ⟨f, hf⟩ : ∃ f, f = bads l k := ⟨_, rfl⟩
          rw [← hf] at hs hbl ⊢
          clear hall hbw hz
          cases z with
          | false =>
            have HBS := Lib.hid (show bads l (k + 1) = f by rw [hs]; rfl)
            clear hs hf
            have p0 : wr.cell? ⟨w.heap.size, 0, none⟩ = some (.string S0) := (HST0.out.call (HBW.out)).cell 0 0 rfl rfl
            have p1 : wr.cell? ⟨w.heap.size, 1, none⟩ = some (.string S1) := (HST0.out.call (HBW.out)).cell 0 1 rfl rfl
            have p2 : wr.cell? ⟨w.heap.size, 2, none⟩ = some (.string S2) := (HST0.out.call (HBW.out)).cell 0 2 rfl rfl
            have p3 : wr.cell? ⟨w.heap.size, 3, none⟩ = some (.string S3) := (HST0.out.call (HBW.out)).cell 0 3 rfl rfl
            have p4 : wr.cell? ⟨w.heap.size, 4, none⟩ = some (.string S4) := (HST0.out.call (HBW.out)).cell 0 4 rfl rfl
            have p5 : wr.cell? ⟨w.heap.size, 5, none⟩ = some (.string S5) := (HST0.out.call (HBW.out)).cell 0 5 rfl rfl
            have p6 : wr.cell? ⟨w.heap.size, 6, none⟩ = some (.string S6) := (HST0.out.call (HBW.out)).cell 0 6 rfl rfl
            have p7 : wr.cell? ⟨w.heap.size, 7, none⟩ = some (.string S7) := (HST0.out.call (HBW.out)).cell 0 7 rfl rfl
            go_wp2_with fail
            (with_reducible refine (HBD.out wr HBW.out).mono ?_)
            rintro e w2 ⟨a, b, rfl, ha, hb, hb2⟩
            have HB2 := Lib.hid (below_next HBW.out hb2)
            have HHI := Lib.hid (show b ≤ (f : Int) ↔ verK p q r0 r1 l (k + 1) = 2 from by
              have h := fol_hi (l := l) HOK.out hb
              rw [HBS.out] at h
              first | exact h | (rw [Int.natCast_add] at h; exact h))
            have HLO := Lib.hid (show (f : Int) ≤ a ↔ verK p q r0 r1 l (k + 1) = 1 from by
              have h := fol_lo (l := l) HOK.out ha
              rw [HBS.out] at h
              first | exact h | (rw [Int.natCast_add] at h; exact h))
            clear ha hb hb2 p0 p1 p2 p3 p4 p5 p6 p7
            by_cases h1 : b ≤ (f : Int)
            · have t1 : decide (b ≤ (f : Int)) = true := decide_eq_true h1
              have hv := HHI.out.1 h1
              have hs := HSOME.out k HALL.out hlt (by rw [hv]; decide)
              rw [hv] at hs
              obtain ⟨e1, e2⟩ := hs
              clear h1 hv
              go_wp2_with fail
              (with_reducible refine (HH.out _ (below_next HST0.out.below HB2.out)).mono ?_)
              rintro e wh ⟨rfl, hbh⟩
              have HBH := Lib.hid (below_next (below_next HST0.out.below HB2.out) hbh)
              clear hbh
              go_wp2
              go_ret
              exact ⟨by rfl, HBH.out⟩
            · have t1 : decide (b ≤ (f : Int)) = false := decide_eq_false h1
              by_cases h2 : (f : Int) ≤ a
              · have t2 : decide ((f : Int) ≤ a) = true := decide_eq_true h2
                have hv := HLO.out.1 h2
                have hs := HSOME.out k HALL.out hlt (by rw [hv]; decide)
                rw [hv] at hs
                obtain ⟨e1, e2⟩ := hs
                clear h1 h2 hv
                go_wp2_with fail
                (with_reducible refine (HH.out _ (below_next HST0.out.below HB2.out)).mono ?_)
                rintro e wh ⟨rfl, hbh⟩
                have HBH := Lib.hid (below_next (below_next HST0.out.below HB2.out) hbh)
                clear hbh
                go_wp2
                go_ret
                exact ⟨by rfl, HBH.out⟩
              · have t2 : decide ((f : Int) ≤ a) = false := decide_eq_false h2
                have HV3 := Lib.hid (show verK p q r0 r1 l (k + 1) = 3 from by
                  rcases verN_one p q r0 r1 (k + 1) (bads l (k + 1)) with g | g | g
                  · exact absurd (HLO.out.2 g) h2
                  · exact absurd (HHI.out.2 g) h1
                  · exact g)
                clear h1 h2
                go_wp2
                go_roundw
                case rel => exact ⟨k + 1, by first | (rw [HBS.out]; done) | (rw [HBS.out]; go_num) | (rw [HBS.out]; simp), by first | rfl | simp | go_num, by omega, fun j hj => by
                  rcases Nat.lt_or_ge j k with g | g
                  · exact HALL.out j g
                  · obtain rfl : j = k := by omega
                    exact HV3.out, HB2.out⟩
                case measure => simp [intOf]; omega
          | true =>
            have HBS := Lib.hid (show bads l (k + 1) = f + 1 by rw [hs]; rfl)
            clear hs hf
            have p0 : wr.cell? ⟨w.heap.size, 0, none⟩ = some (.string S0) := (HST0.out.call (HBW.out)).cell 0 0 rfl rfl
            have p1 : wr.cell? ⟨w.heap.size, 1, none⟩ = some (.string S1) := (HST0.out.call (HBW.out)).cell 0 1 rfl rfl
            have p2 : wr.cell? ⟨w.heap.size, 2, none⟩ = some (.string S2) := (HST0.out.call (HBW.out)).cell 0 2 rfl rfl
            have p3 : wr.cell? ⟨w.heap.size, 3, none⟩ = some (.string S3) := (HST0.out.call (HBW.out)).cell 0 3 rfl rfl
            have p4 : wr.cell? ⟨w.heap.size, 4, none⟩ = some (.string S4) := (HST0.out.call (HBW.out)).cell 0 4 rfl rfl
            have p5 : wr.cell? ⟨w.heap.size, 5, none⟩ = some (.string S5) := (HST0.out.call (HBW.out)).cell 0 5 rfl rfl
            have p6 : wr.cell? ⟨w.heap.size, 6, none⟩ = some (.string S6) := (HST0.out.call (HBW.out)).cell 0 6 rfl rfl
            have p7 : wr.cell? ⟨w.heap.size, 7, none⟩ = some (.string S7) := (HST0.out.call (HBW.out)).cell 0 7 rfl rfl
            go_wp2_with fail
            (with_reducible refine (HBD.out wr HBW.out).mono ?_)
            rintro e w2 ⟨a, b, rfl, ha, hb, hb2⟩
            have HB2 := Lib.hid (below_next HBW.out hb2)
            have HHI := Lib.hid (show b ≤ ((f : Int) + 1) ↔ verK p q r0 r1 l (k + 1) = 2 from by
              have h := fol_hi (l := l) HOK.out hb
              rw [HBS.out] at h
              first | exact h | (rw [Int.natCast_add] at h; exact h))
            have HLO := Lib.hid (show ((f : Int) + 1) ≤ a ↔ verK p q r0 r1 l (k + 1) = 1 from by
              have h := fol_lo (l := l) HOK.out ha
              rw [HBS.out] at h
              first | exact h | (rw [Int.natCast_add] at h; exact h))
            clear ha hb hb2 p0 p1 p2 p3 p4 p5 p6 p7
            by_cases h1 : b ≤ ((f : Int) + 1)
            · have t1 : decide (b ≤ ((f : Int) + 1)) = true := decide_eq_true h1
              have hv := HHI.out.1 h1
              have hs := HSOME.out k HALL.out hlt (by rw [hv]; decide)
              rw [hv] at hs
              obtain ⟨e1, e2⟩ := hs
              clear h1 hv
              go_wp2_with fail
              (with_reducible refine (HH.out _ (below_next HST0.out.below HB2.out)).mono ?_)
              rintro e wh ⟨rfl, hbh⟩
              have HBH := Lib.hid (below_next (below_next HST0.out.below HB2.out) hbh)
              clear hbh
              go_wp2
              go_ret
              exact ⟨by rfl, HBH.out⟩
            · have t1 : decide (b ≤ ((f : Int) + 1)) = false := decide_eq_false h1
              by_cases h2 : ((f : Int) + 1) ≤ a
              · have t2 : decide (((f : Int) + 1) ≤ a) = true := decide_eq_true h2
                have hv := HLO.out.1 h2
                have hs := HSOME.out k HALL.out hlt (by rw [hv]; decide)
                rw [hv] at hs
                obtain ⟨e1, e2⟩ := hs
                clear h1 h2 hv
                go_wp2_with fail
                (with_reducible refine (HH.out _ (below_next HST0.out.below HB2.out)).mono ?_)
                rintro e wh ⟨rfl, hbh⟩
                have HBH := Lib.hid (below_next (below_next HST0.out.below HB2.out) hbh)
                clear hbh
                go_wp2
                go_ret
                exact ⟨by rfl, HBH.out⟩
              · have t2 : decide (((f : Int) + 1) ≤ a) = false := decide_eq_false h2
                have HV3 := Lib.hid (show verK p q r0 r1 l (k + 1) = 3 from by
                  rcases verN_one p q r0 r1 (k + 1) (bads l (k + 1)) with g | g | g
                  · exact absurd (HLO.out.2 g) h2
                  · exact absurd (HHI.out.2 g) h1
                  · exact g)
                clear h1 h2
                go_wp2
                go_roundw
                case rel => exact ⟨k + 1, by first | (rw [HBS.out]; done) | (rw [HBS.out]; go_num) | (rw [HBS.out]; simp), by first | rfl | simp | go_num, by omega, fun j hj => by
                  rcases Nat.lt_or_ge j k with g | g
                  · exact HALL.out j g
                  · obtain rfl : j = k := by omega
                    exact HV3.out, HB2.out⟩
                case measure => simp [intOf]; omega
        · obtain rfl : k = l.length := by omega
          obtain ⟨e1, e2⟩ := HNONE.out HALL.out
          clear hall hbw
          go_wp2_with fail
          (with_reducible refine (HH.out _ (below_next HST0.out.below HBW.out)).mono ?_)
          rintro e wh ⟨rfl, hbh⟩
          have HBH := Lib.hid (below_next (below_next HST0.out.below HBW.out) hbh)
          clear hbh
          go_wp2
          go_ret
          exact ⟨by rfl, HBH.out⟩
  · have hvv : jgV L p q r0 r1 l = .tuple #[.int .i64 0, .int .i64 0, .int .i64 (jgC L p q l.length)] := by unfold jgV; rw [if_pos hc]
    rw [hvv] at HJ
    obtain ⟨C, hC⟩ : ∃ C, C = jgC L p q l.length := ⟨_, rfl⟩
    rw [← hC] at HJ hc
    have t1 : (C != 0) = true := by rw [bne_iff_ne]; exact hc
    clear hC hc hvv hok
    go_enter Tryz.func7, Tryz.ntmps7
    go_wp2_with fail
    rw [← hW0]
    clear hW0
    (with_reducible refine (HJ.out W0 HST0.out.below).mono ?_)
    rintro e w1 ⟨rfl, hb1⟩
    have HB1 := Lib.hid (below_next HST0.out.below hb1)
    have HB01 := Lib.hid hb1
    clear hb1 p0 p1 p2 p3 p4 p5 p6 p7
    go_wp2_with fail
    (with_reducible refine (HH.out _ (HB1.out)).mono ?_)
    rintro e wh ⟨rfl, hbh⟩
    have HBH := Lib.hid (below_next (HB1.out) hbh)
    clear hbh
    go_wp2
    go_ret
    exact ⟨by rfl, HBH.out⟩
end Go.Proofs.YtnapdhfkgfjjfaaGreatDoor

/- What every law behind the door shares: the table that its row lists, a world for the witness, and the card out of the row's statement. -/
namespace Go.Proofs.YtnapdhfkgfjjfaaGreatDoor
open Go Go.ChangeShapes Go.WideShapes Go.ChangeAt Go.RowKit

theorem gPow : Tryz.prog.globalNamed "internal/strconv.uint64pow10" = some 2 := by kernel_rfl
theorem gPowType : (Tryz.prog.globals[2]?).map (·.type) = some 201 := by kernel_rfl
theorem cellsPow : Tryz.prog.cellsOf 201 = 20 := by kernel_rfl
theorem cellsU : Tryz.prog.cellsOf 110 = 1 := by kernel_rfl

/-- the list of the rows of this seat -/
abbrev laid3 : List (String × DataW Unit) := [("math/bits.deBruijn32tab", Rows.laid_math_bits_deBruijn32tab), ("math/bits.deBruijn64tab", Rows.laid_math_bits_deBruijn64tab), ("internal/strconv.uint64pow10", Rows.laid_internal_strconv_uint64pow10), ("unicode/utf8.acceptRanges", Rows.laid_unicode_utf8_acceptRanges), ("strconv.ErrRange", Rows.laid_strconv_ErrRange), ("strconv.ErrSyntax", Rows.laid_strconv_ErrSyntax), ("unicode/utf8.first", Rows.laid_unicode_utf8_first)]

theorem table {W : World} (h0 : laidMetH Tryz.prog laid3 W) : Tab W.heap.size W := by
  have h : laidMet Tryz.prog laid3 W := h0
  refine Lib.tabBelow_of_tabIs ?_
  obtain ⟨ps, ⟨g1, t1, cs1, fu1, p1, q1, _, _, _, _, ⟨g2, t2, cs2, fu2, p2, q2, _, _, _, _, ⟨g', t', cs, fuel, p, q, hg', ht', hvar, hd, _, _⟩, _⟩, _⟩, _⟩ := h
  obtain rfl := Option.some.inj (gPow.symm.trans hg')
  obtain rfl := Option.some.inj (gPowType.symm.trans ht')
  unfold Lib.TabIs
  rw [hvar, ← Lib.cells_of_tab Tryz.underlying201 Tryz.underlying110 cellsU cellsPow hd]

/-- A WORLD FOR THE WITNESS: the settled one, the listed variables holding what their initialisers lay. -/
noncomputable def laidWorld (os : Os) : World := World.laidAll Tryz.prog os laid3
theorem laid_met (os : Os) (args : Array Value) : laidMet Tryz.prog laid3 ((laidWorld os).forCall (fun _ _ => 0) ⟨#[], args, []⟩).memory :=
  laidMet_laidAll args (by kernel_rfl) (by kernel_rfl)
end Go.Proofs.YtnapdhfkgfjjfaaGreatDoor
