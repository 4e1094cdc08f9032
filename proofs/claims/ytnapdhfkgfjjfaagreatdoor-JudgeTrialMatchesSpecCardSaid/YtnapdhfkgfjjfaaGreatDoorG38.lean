import Derived.Test.YtnapdhfkgfjjfaaGreatDoorG35
import Derived.Test.YtnapdhfkgfjjfaaGreatDoorJComp
import Derived.Test.YtnapdhfkgfjjfaaGreatDoorG16
import Derived.Test.YtnapdhfkgfjjfaaGreatDoorG10
/- Package judge: bounds, CheckTrial, Bounds, Judge. -/
namespace Go.Proofs.YtnapdhfkgfjjfaaGreatDoor
open Go Go.RowKit Go.Proofs

set_option maxHeartbeats 8000000 in
set_option maxRecDepth 100000 in
theorem jBnds_any (B n : Nat) (p q r0 r1 : Rat) (w : World) (hT : TrR w B p q r0 r1) (hok : TrOk p q r0 r1) (hn : n ≤ 2000) :
    Calls Tryz.prog 61 #[.pointer (some ⟨B, 0, none⟩), .int .i64 (n : Nat)] w fun e w' => ∃ a b : Int, e = .returned (.tuple #[.int .i64 a, .int .i64 b]) ∧ LoAt p q r1 n a ∧ HiAt p q r0 n b ∧ Below w.heap.size w w' := by
  obtain ⟨W0, hW0⟩ : ∃ W0, W0 = (w.alloc (.cells #[.pointer (some ⟨B, 0, none⟩)] 84)).alloc (.cells #[.int .i64 (n : Nat)] 3) := ⟨_, rfl⟩
  have HST0 := Lib.hid (show St w W0 [(w.heap.size, .cells #[.pointer (some ⟨B, 0, none⟩)] 84 (0, 0)), (w.heap.size + 1, .cells #[.int .i64 (n : Nat)] 3 (0, 0))] by rw [hW0]; exact ((St.start w).alloc _ _ rfl).alloc _ _ (by simp))
  have HF := Lib.hid (fun k W (hb : Below W0.heap.size W0 W) => jFirst_any k B (w.heap.size + 1) w.heap.size n _ _ p q r0 r1 W (hT.on (below_next HST0.out.below hb)) hok hn ((HST0.out.call hb).at 1 rfl) ((HST0.out.call hb).at 0 rfl))
  have HFL := Lib.hid (fun W (hb : Below W0.heap.size W0 W) => (show Calls Tryz.prog 99 #[.func (.func 100) #[] #[], .pointer (some ⟨w.heap.size + 1, 0, none⟩), .pointer (some ⟨w.heap.size, 0, none⟩)] W _ from HF.out .notLow W hb))
  have HFH := Lib.hid (fun W (hb : Below W0.heap.size W0 W) => (show Calls Tryz.prog 99 #[.func (.func 101) #[] #[], .pointer (some ⟨w.heap.size + 1, 0, none⟩), .pointer (some ⟨w.heap.size, 0, none⟩)] W _ from HF.out .high W hb))
  have HLO := Lib.hid (show ∀ t : Nat, SkAt (verN p q r0 r1 n) .notLow n t → LoAt p q r1 n ((t : Int) - 1) from fun t ht => bnd_lo (r0 := r0) hok.g hok.a0 hok.a1 hok.b0 hok.b1 ht.1 (fun f hf => by
    obtain ⟨g, g1, g2, g3⟩ := ht.2.1 f hf
    exact ⟨g, g1, g2, by simpa [skB] using g3⟩) (fun hl => ⟨t, Nat.le_refl _, by have := ht.2.2 hl; simpa [skB] using this⟩))
  have HHI := Lib.hid (show ∀ t : Nat, SkAt (verN p q r0 r1 n) .high n t → HiAt p q r0 n (t : Int) from fun t ht => bnd_hi (r1 := r1) hok.g hok.a0 hok.a1 hok.b0 hok.b1 ht.1 (fun f hf => by
    obtain ⟨g, g1, g2, g3⟩ := ht.2.1 f hf
    exact ⟨g, g1, g2, by simpa [skB] using g3⟩) (fun hl => ⟨t, Nat.le_refl _, by have := ht.2.2 hl; simpa [skB] using this⟩))
  clear HF hT hok
  go_enter Tryz.func61, Tryz.ntmps61
  go_wp2_with fail
  rw [← hW0]
  clear hW0
  (with_reducible refine (HFL.out _ (Below.refl _ _)).mono ?_)
  rintro e w1 ⟨t, rfl, ht, hb1⟩
  have HT1 := Lib.hid ht
  have HB1 := Lib.hid hb1
  have htl : t ≤ n + 1 := ht.1
  clear ht hb1
  go_wp2_with fail
  (with_reducible refine (HFH.out _ HB1.out).mono ?_)
  rintro e w2 ⟨s, rfl, hs, hb2⟩
  have HS2 := Lib.hid hs
  have HB2 := Lib.hid (below_next HST0.out.below (below_next HB1.out hb2))
  clear hs hb2
  go_wp2
  refine bodyPost_ret (v := .tuple #[.int .i64 ((t : Int) - 1), .int .i64 (s : Int)]) (by simp [results, Tryz.results61, go_sem]) rfl ⟨_, _, rfl, HLO.out t HT1.out, HHI.out s HS2.out, HB2.out⟩

/-- the trial of eight texts -/
def TL (S0 S1 S2 S3 S4 S5 S6 S7 : ByteArray) : List (ByteArray × ByteArray) := [(S0, S1), (S2, S3), (S4, S5), (S6, S7)]
set_option maxHeartbeats 8000000 in
set_option maxRecDepth 100000 in
theorem jCheckTrial_any (S0 S1 S2 S3 S4 S5 S6 S7 : ByteArray) (w : World) (z0 : S0.size ≤ 9223372036854775800) (z1 : S1.size ≤ 9223372036854775800) (z2 : S2.size ≤ 9223372036854775800) (z3 : S3.size ≤ 9223372036854775800) (z4 : S4.size ≤ 9223372036854775800) (z5 : S5.size ≤ 9223372036854775800) (z6 : S6.size ≤ 9223372036854775800) (z7 : S7.size ≤ 9223372036854775800) :
    Calls Tryz.prog 25 #[.agg #[.string S0, .string S1, .string S2, .string S3, .string S4, .string S5, .string S6, .string S7]] w fun e w' => e = .returned (.int .i64 (trCode (TL S0 S1 S2 S3 S4 S5 S6 S7) (prQ (S0, S1)) (prQ (S2, S3)))) ∧ Below w.heap.size w w' := by
  obtain ⟨W0, hW0⟩ : ∃ W0, W0 = w.alloc (.cells #[.string S0, .string S1, .string S2, .string S3, .string S4, .string S5, .string S6, .string S7] 36) := ⟨_, rfl⟩
  have HST0 := Lib.hid (show St w W0 [(w.heap.size, .cells #[.string S0, .string S1, .string S2, .string S3, .string S4, .string S5, .string S6, .string S7] 36 (0, 0))] by rw [hW0]; exact (St.start w).alloc _ _ rfl)
  have HCM := Lib.hid (fun W => jCompile_any S0 S1 S2 S3 S4 S5 S6 S7 W z0 z1 z2 z3 z4 z5 z6 z7)
  obtain ⟨L, hL⟩ : ∃ L, L = TL S0 S1 S2 S3 S4 S5 S6 S7 := ⟨_, rfl⟩
  rw [show [(S0, S1), (S2, S3), (S4, S5), (S6, S7)] = L from hL.symm] at HCM
  rw [← hL]
  obtain ⟨p, hp⟩ : ∃ q, q = prQ (S0, S1) := ⟨_, rfl⟩
  obtain ⟨q, hq⟩ : ∃ r, r = prQ (S2, S3) := ⟨_, rfl⟩
  obtain ⟨r0, hr0⟩ : ∃ q, q = prQ (S4, S5) := ⟨_, rfl⟩
  obtain ⟨r1, hr1⟩ : ∃ q, q = prQ (S6, S7) := ⟨_, rfl⟩
  rw [← hp, ← hq, ← hr0, ← hr1] at HCM
  rw [← hp, ← hq]
  try rw [← hr0, ← hr1]
  obtain ⟨C, hC⟩ : ∃ c, c = trCode L p q := ⟨_, rfl⟩
  unfold CompPost at HCM
  rw [← hC] at HCM ⊢
  have p0 : W0.cell? ⟨w.heap.size, 0, none⟩ = some (.string S0) := HST0.out.cell 0 0 rfl rfl
  have p1 : W0.cell? ⟨w.heap.size, 1, none⟩ = some (.string S1) := HST0.out.cell 0 1 rfl rfl
  have p2 : W0.cell? ⟨w.heap.size, 2, none⟩ = some (.string S2) := HST0.out.cell 0 2 rfl rfl
  have p3 : W0.cell? ⟨w.heap.size, 3, none⟩ = some (.string S3) := HST0.out.cell 0 3 rfl rfl
  have p4 : W0.cell? ⟨w.heap.size, 4, none⟩ = some (.string S4) := HST0.out.cell 0 4 rfl rfl
  have p5 : W0.cell? ⟨w.heap.size, 5, none⟩ = some (.string S5) := HST0.out.cell 0 5 rfl rfl
  have p6 : W0.cell? ⟨w.heap.size, 6, none⟩ = some (.string S6) := HST0.out.cell 0 6 rfl rfl
  have p7 : W0.cell? ⟨w.heap.size, 7, none⟩ = some (.string S7) := HST0.out.cell 0 7 rfl rfl
  clear hL hp hq hr0 hr1 hC z0 z1 z2 z3 z4 z5 z6 z7
  go_enter Tryz.func25, Tryz.ntmps25
  go_wp2_with fail
  rw [← hW0]
  clear hW0
  (with_reducible refine (HCM.out _).mono ?_)
  rintro e w1 (⟨hne, rfl, hb1⟩ | ⟨hz, B, rfl, hT, hok, hBl, hb1⟩)
  · have HB := Lib.hid (below_next HST0.out.below hb1)
    clear hne hb1 p0 p1 p2 p3 p4 p5 p6 p7
    go_wp2
    go_ret
    exact ⟨rfl, HB.out⟩
  · have HB := Lib.hid (below_next HST0.out.below hb1)
    have HZ := Lib.hid hz
    clear hT hok hBl hz hb1 p0 p1 p2 p3 p4 p5 p6 p7
    go_wp2
    go_ret
    exact ⟨by rw [HZ.out]; rfl, HB.out⟩
/-- the code of Bounds -/
def bnC (L : List (ByteArray × ByteArray)) (p q : Rat) (n : Int) : Int := if trCode L p q ≠ 0 then trCode L p q else if n < 0 ∨ 2000 < n then 9 else 0
def BndPost (L : List (ByteArray × ByteArray)) (p q r0 r1 : Rat) (n : Int) (w : World) (e : Ending) (w' : World) : Prop :=
  (bnC L p q n ≠ 0 ∧ e = .returned (.tuple #[.int .i64 0, .int .i64 0, .int .i64 (bnC L p q n)]) ∧ Below w.heap.size w w') ∨
  (bnC L p q n = 0 ∧ ∃ a b : Int, e = .returned (.tuple #[.int .i64 a, .int .i64 b, .int .i64 0]) ∧ LoAt p q r1 n.toNat a ∧ HiAt p q r0 n.toNat b ∧ Below w.heap.size w w')
theorem bnC_tr {L : List (ByteArray × ByteArray)} {p q : Rat} {n : Int} (h : trCode L p q ≠ 0) : bnC L p q n = trCode L p q := by unfold bnC; rw [if_pos h]
theorem bnC_rng {L : List (ByteArray × ByteArray)} {p q : Rat} {n : Int} (h : trCode L p q = 0) (h2 : n < 0 ∨ 2000 < n) : bnC L p q n = 9 := by unfold bnC; rw [if_neg (by omega), if_pos h2]
theorem bnC_ok {L : List (ByteArray × ByteArray)} {p q : Rat} {n : Int} (h : trCode L p q = 0) (h2 : ¬ (n < 0 ∨ 2000 < n)) : bnC L p q n = 0 := by unfold bnC; rw [if_neg (by omega), if_neg h2]
set_option maxHeartbeats 8000000 in
set_option maxRecDepth 100000 in
theorem jBoundsP_any (S0 S1 S2 S3 S4 S5 S6 S7 : ByteArray) (n : Int) (w : World) (z0 : S0.size ≤ 9223372036854775800) (z1 : S1.size ≤ 9223372036854775800) (z2 : S2.size ≤ 9223372036854775800) (z3 : S3.size ≤ 9223372036854775800) (z4 : S4.size ≤ 9223372036854775800) (z5 : S5.size ≤ 9223372036854775800) (z6 : S6.size ≤ 9223372036854775800) (z7 : S7.size ≤ 9223372036854775800) :
    Calls Tryz.prog 23 #[.agg #[.string S0, .string S1, .string S2, .string S3, .string S4, .string S5, .string S6, .string S7], .int .i64 n] w (BndPost (TL S0 S1 S2 S3 S4 S5 S6 S7) (prQ (S0, S1)) (prQ (S2, S3)) (prQ (S4, S5)) (prQ (S6, S7)) n w) := by
  have hc1 := fun {L p q} => bnC_tr (L := L) (p := p) (q := q) (n := n)
  have hc2 := fun {L p q} => bnC_rng (L := L) (p := p) (q := q) (n := n)
  have hc3 := fun {L p q} => bnC_ok (L := L) (p := p) (q := q) (n := n)
  unfold BndPost
  obtain ⟨L, hL⟩ : ∃ L, L = TL S0 S1 S2 S3 S4 S5 S6 S7 := ⟨_, rfl⟩
  obtain ⟨W0, hW0⟩ : ∃ W0, W0 = w.alloc (.cells #[.string S0, .string S1, .string S2, .string S3, .string S4, .string S5, .string S6, .string S7] 36) := ⟨_, rfl⟩
  have HST0 := Lib.hid (show St w W0 [(w.heap.size, .cells #[.string S0, .string S1, .string S2, .string S3, .string S4, .string S5, .string S6, .string S7] 36 (0, 0))] by rw [hW0]; exact (St.start w).alloc _ _ rfl)
  have HCM := Lib.hid (fun W => jCompile_any S0 S1 S2 S3 S4 S5 S6 S7 W z0 z1 z2 z3 z4 z5 z6 z7)
  rw [show [(S0, S1), (S2, S3), (S4, S5), (S6, S7)] = L from hL.symm] at HCM
  rw [← hL]
  obtain ⟨p, hp⟩ : ∃ q, q = prQ (S0, S1) := ⟨_, rfl⟩
  obtain ⟨q, hq⟩ : ∃ r, r = prQ (S2, S3) := ⟨_, rfl⟩
  obtain ⟨r0, hr0⟩ : ∃ q, q = prQ (S4, S5) := ⟨_, rfl⟩
  obtain ⟨r1, hr1⟩ : ∃ q, q = prQ (S6, S7) := ⟨_, rfl⟩
  rw [← hp, ← hq, ← hr0, ← hr1] at HCM ⊢
  have HC1 := Lib.hid (hc1 (L := L) (p := p) (q := q))
  have HC2 := Lib.hid (hc2 (L := L) (p := p) (q := q))
  have HC3 := Lib.hid (hc3 (L := L) (p := p) (q := q))
  obtain ⟨C, hC⟩ : ∃ c, c = trCode L p q := ⟨_, rfl⟩
  obtain ⟨D, hD⟩ : ∃ c, c = bnC L p q n := ⟨_, rfl⟩
  unfold CompPost at HCM
  rw [← hC] at HCM HC1 HC2 HC3
  rw [← hD] at HC1 HC2 HC3 ⊢
  have HIN := Lib.hid (fun W => jInside_any n 0 2000 W)
  have p0 : W0.cell? ⟨w.heap.size, 0, none⟩ = some (.string S0) := HST0.out.cell 0 0 rfl rfl
  have p1 : W0.cell? ⟨w.heap.size, 1, none⟩ = some (.string S1) := HST0.out.cell 0 1 rfl rfl
  have p2 : W0.cell? ⟨w.heap.size, 2, none⟩ = some (.string S2) := HST0.out.cell 0 2 rfl rfl
  have p3 : W0.cell? ⟨w.heap.size, 3, none⟩ = some (.string S3) := HST0.out.cell 0 3 rfl rfl
  have p4 : W0.cell? ⟨w.heap.size, 4, none⟩ = some (.string S4) := HST0.out.cell 0 4 rfl rfl
  have p5 : W0.cell? ⟨w.heap.size, 5, none⟩ = some (.string S5) := HST0.out.cell 0 5 rfl rfl
  have p6 : W0.cell? ⟨w.heap.size, 6, none⟩ = some (.string S6) := HST0.out.cell 0 6 rfl rfl
  have p7 : W0.cell? ⟨w.heap.size, 7, none⟩ = some (.string S7) := HST0.out.cell 0 7 rfl rfl
  clear hL hp hq hr0 hr1 hC hD hc1 hc2 hc3 z0 z1 z2 z3 z4 z5 z6 z7
  go_enter Tryz.func23, Tryz.ntmps23
  go_wp2_with fail
  rw [← hW0]
  clear hW0
  (with_reducible refine (HCM.out _).mono ?_)
  rintro e w1 (⟨hne, rfl, hb1⟩ | ⟨hz, B, rfl, hT, hok, hBl, hb1⟩)
  · have HB := Lib.hid (below_next HST0.out.below hb1)
    have HD := Lib.hid (HC1.out hne)
    have HNE := Lib.hid hne
    have t1 : (C != 0) = true := by rw [bne_iff_ne]; exact hne
    clear hne hb1 p0 p1 p2 p3 p4 p5 p6 p7
    go_wp2
    refine bodyPost_ret (v := .tuple #[.int .i64 0, .int .i64 0, .int .i64 C]) (by simp [results, Tryz.results23, go_sem]) rfl (.inl ⟨by rw [HD.out]; exact HNE.out, by rw [HD.out], HB.out⟩)
  · have HB := Lib.hid (below_next HST0.out.below hb1)
    have HZ := Lib.hid hz
    by_cases hr : n < 0 ∨ 2000 < n
    · have hin : (decide (0 ≤ n) && decide (n ≤ 2000)) = false := by
        rw [Bool.eq_false_iff]; simp; omega
      rw [hin] at HIN
      have HD := Lib.hid (HC2.out HZ.out hr)
      clear hr hin hT hok hBl hz hb1 p0 p1 p2 p3 p4 p5 p6 p7
      go_wp2_with fail
      (with_reducible refine (HIN.out _).mono ?_)
      rintro e wi ⟨rfl, hwi⟩
      have hwi' := hwi.symm
      subst hwi'
      go_wp2
      refine bodyPost_ret (v := .tuple #[.int .i64 0, .int .i64 0, .int .i64 9]) (by simp [results, Tryz.results23, go_sem]) rfl (.inl ⟨by rw [HD.out]; decide, by rw [HD.out], HB.out⟩)
    · have hin : (decide (0 ≤ n) && decide (n ≤ 2000)) = true := by
        rw [Bool.and_eq_true, decide_eq_true_eq, decide_eq_true_eq]; omega
      rw [hin] at HIN
      have HD := Lib.hid (HC3.out HZ.out hr)
      obtain ⟨N, rfl⟩ : ∃ N : Nat, n = N := ⟨n.toNat, by omega⟩
      have HBN := Lib.hid (jBnds_any B N p q r0 r1 w1 hT hok (by omega))
      clear hr hin hT hok hBl hz hb1 p0 p1 p2 p3 p4 p5 p6 p7
      go_wp2_with fail
      (with_reducible refine (HIN.out _).mono ?_)
      rintro e wi ⟨rfl, hwi⟩
      have hwi' := hwi.symm
      subst hwi'
      go_wp2_with fail
      (with_reducible refine (HBN.out).mono ?_)
      rintro e w2 ⟨a, b, rfl, ha, hb, hb2⟩
      have HA := Lib.hid (And.intro ha hb)
      have HB2 := Lib.hid (below_next HB.out hb2)
      clear ha hb hb2
      go_wp2
      refine bodyPost_ret (v := .tuple #[.int .i64 a, .int .i64 b, .int .i64 0]) (by simp [results, Tryz.results23, go_sem]) rfl (.inr ⟨HD.out, a, b, rfl, by rw [Int.toNat_natCast]; exact HA.out.1, by rw [Int.toNat_natCast]; exact HA.out.2, HB2.out⟩)
end Go.Proofs.YtnapdhfkgfjjfaaGreatDoor

/- Eight texts that are a trial: what its code tells. -/
namespace Go.Proofs.YtnapdhfkgfjjfaaGreatDoor
open Go Go.RowKit Go.Proofs

theorem tr_zero {S0 S1 S2 S3 S4 S5 S6 S7 : ByteArray} (h : trCode (TL S0 S1 S2 S3 S4 S5 S6 S7) (prQ (S0, S1)) (prQ (S2, S3)) = 0) : (∀ (j : Nat) (p : ByteArray × ByteArray), (TL S0 S1 S2 S3 S4 S5 S6 S7)[j]? = some p → shC .between p.1.data.toList p.2.data.toList = 0) ∧ ordQ (prQ (S0, S1)) (prQ (S2, S3)) < 0 := by
  unfold trCode at h
  by_cases h1 : shL (TL S0 S1 S2 S3 S4 S5 S6 S7) = 0
  · rw [if_neg (by rw [h1]; decide)] at h
    have ho : ordQ (prQ (S0, S1)) (prQ (S2, S3)) < 0 := by
      refine Classical.byContradiction fun hc => ?_
      rw [if_pos (by omega)] at h
      exact absurd h (by decide)
    refine ⟨?_, ho⟩
    intro j
    induction j using Nat.strongRecOn with
    | ind j ih =>
      intro p hp
      refine Classical.byContradiction fun hc => ?_
      have := shL_at hp (fun i q hi hq => ih i hi q hq) hc
      rw [h1] at this
      exact hc this.symm
  · rw [if_pos h1] at h
    exact absurd h h1
theorem tr_ok {S0 S1 S2 S3 S4 S5 S6 S7 : ByteArray} (h : trCode (TL S0 S1 S2 S3 S4 S5 S6 S7) (prQ (S0, S1)) (prQ (S2, S3)) = 0) : TrOk (prQ (S0, S1)) (prQ (S2, S3)) (prQ (S4, S5)) (prQ (S6, S7)) := by
  obtain ⟨hz, ho⟩ := tr_zero h
  have y0 := prQ_small (hz 0 (S0, S1) rfl)
  have y1 := prQ_small (hz 1 (S2, S3) rfl)
  have y2 := prQ_small (hz 2 (S4, S5) rfl)
  have y3 := prQ_small (hz 3 (S6, S7) rfl)
  exact ⟨⟨y0.1, y0.2.1, y1.1, y1.2.1, ord_cross y0.2.2.2 y1.2.2.2 ho⟩, ⟨y0.2.2.1, y1.2.2.1⟩, y2.1, y2.2.1, y2.2.2.1, y3.1, y3.2.1, y3.2.2.1⟩
theorem tr_cRt {S0 S1 S2 S3 S4 S5 S6 S7 : ByteArray} (h : trCode (TL S0 S1 S2 S3 S4 S5 S6 S7) (prQ (S0, S1)) (prQ (S2, S3)) = 0) : cRt S0.data.toList S1.data.toList = 0 ∧ cRt S2.data.toList S3.data.toList = 0 ∧ cRt S4.data.toList S5.data.toList = 0 ∧ cRt S6.data.toList S7.data.toList = 0 := by
  obtain ⟨hz, _⟩ := tr_zero h
  exact ⟨(shC_zero (hz 0 (S0, S1) rfl)).1, (shC_zero (hz 1 (S2, S3) rfl)).1, (shC_zero (hz 2 (S4, S5) rfl)).1, (shC_zero (hz 3 (S6, S7) rfl)).1⟩
end Go.Proofs.YtnapdhfkgfjjfaaGreatDoor

/- Pairs of fractions of the reference in two variables: what stores leave. -/
namespace Go.Proofs.YtnapdhfkgfjjfaaGreatDoor
open Go Go.RowKit Go.Proofs

theorem rnatr_set3 {w : World} {B : Nat} {u0 u1 u2 a0 a1 a2 : Value} {A : Option Addr} {c x : Nat} {l : List Nat} (h : RNatR w A c l x) (hX : w.heap[B]? = some (.cells #[u0, u1, u2] 42 (0, 0))) (hne : ∀ z, u0 ≠ .int .i64 z ∧ u1 ≠ .int .i64 z ∧ u2 ≠ .int .i64 z) : RNatR (((w.setCell ⟨B, 0, none⟩ a0).setCell ⟨B, 1, none⟩ a1).setCell ⟨B, 2, none⟩ a2) A c l x :=
  h.keep (fr3 (w := w) (B := B) a0 a1 a2).size (fun b o e hb hl => (fr3 (w := w) (B := B) a0 a1 a2).block b hb (h.apart hX (by intro v hv z; have := hne z; simp at hv; rcases hv with rfl | rfl | rfl <;> simp [this]) b o e hl))
theorem fbox_far {w : World} {B B' : Nat} (h : FBox w B) (hB : B ≠ B') (a0 a1 a2 : Value) : FBox (((w.setCell ⟨B', 0, none⟩ a0).setCell ⟨B', 1, none⟩ a1).setCell ⟨B', 2, none⟩ a2) B :=
  ((Below.heap_setCell ((w.setCell ⟨B', 0, none⟩ a0).setCell ⟨B', 1, none⟩ a1) ⟨B', 2, none⟩ a2 B hB).trans ((Below.heap_setCell (w.setCell ⟨B', 0, none⟩ a0) ⟨B', 1, none⟩ a1 B hB).trans (Below.heap_setCell w ⟨B', 0, none⟩ a0 B hB))).trans h
end Go.Proofs.YtnapdhfkgfjjfaaGreatDoor

/- The reference's fractions as values and in boxes. -/
namespace Go.Proofs.YtnapdhfkgfjjfaaGreatDoor
open Go Go.RowKit Go.Proofs

theorem VarQ.get {w : World} {B : Nat} {q : Rat} (h : VarQ w B q) : ∃ b A1 c1 l1 A2 c2 l2, (∀ W, Below w.heap.size w W → W.cell? ⟨B, 0, none⟩ = some (.bool b) ∧ W.cell? ⟨B, 1, none⟩ = some (.slice A1 (l1 : List Nat).length c1) ∧ W.cell? ⟨B, 2, none⟩ = some (.slice A2 (l2 : List Nat).length c2) ∧ W.frozen? ⟨B, 0, none⟩ = false ∧ W.frozen? ⟨B, 1, none⟩ = false ∧ W.frozen? ⟨B, 2, none⟩ = false ∧ B < W.heap.size) ∧ FracR w (.agg #[.bool b, .slice A1 l1.length c1, .slice A2 l2.length c2]) q := by
  obtain ⟨A1, c1, l1, A2, c2, l2, e, h1, h2⟩ := h
  refine ⟨_, A1, c1, l1, A2, c2, l2, fun W hW => ?_, A1, c1, l1, A2, c2, l2, rfl, h1, h2⟩
  have e' := (hW.block B (heap_lt e)).trans e
  exact ⟨by rw [cellsAt e']; rfl, by rw [cellsAt e']; rfl, by rw [cellsAt e']; rfl, frozenAt e' 0, frozenAt e' 1, frozenAt e' 2, heap_lt e'⟩
theorem VarQ.raw {w : World} {B : Nat} {q : Rat} (h : VarQ w B q) : ∃ b A1 d1 c1 A2 d2 c2, w.heap[B]? = some (.cells #[.bool b, .slice A1 d1 c1, .slice A2 d2 c2] 42 (0, 0)) := by
  obtain ⟨A1, c1, l1, A2, c2, l2, e, h1, h2⟩ := h
  exact ⟨_, _, _, _, _, _, _, e⟩
theorem VarQ.laid {w : World} {b : Bool} {A1 A2 : Option Addr} {c1 c2 : Nat} {l1 l2 : List Nat} {q : Rat} (h : FracR w (.agg #[.bool b, .slice A1 l1.length c1, .slice A2 l2.length c2]) q) : VarQ (w.alloc (.cells #[.bool b, .slice A1 l1.length c1, .slice A2 l2.length c2] 42)) w.heap.size q := by
  obtain ⟨A3, c3, l3, A4, c4, l4, e, h1, h2⟩ := h
  have hb : Below w.heap.size w (w.alloc (.cells #[.bool b, .slice A1 l1.length c1, .slice A2 l2.length c2] 42)) := (Below.refl _ w).alloc (Nat.le_refl _) _
  refine ⟨A3, c3, l3, A4, c4, l4, ?_, h1.on hb, h2.on hb⟩
  simp only [Value.agg.injEq, Array.mk.injEq, List.cons.injEq, and_true] at e
  obtain ⟨e1, e2, e3⟩ := e
  rw [e1, e2, e3]
  exact alloc_at _ _ _ rfl
/-- a store into one box leaves what lies in the other one -/
theorem VarQ.far {w : World} {B B' : Nat} {p q : Rat} (h : VarQ w B p) (h2 : VarQ w B' q) (hB : B ≠ B') (a0 a1 a2 : Value) : VarQ (((w.setCell ⟨B', 0, none⟩ a0).setCell ⟨B', 1, none⟩ a1).setCell ⟨B', 2, none⟩ a2) B p := by
  obtain ⟨b, A1, d1, c1, A2, d2, c2, e⟩ := h2.raw
  exact varq_far h e (fun z => ⟨by simp, by simp, by simp⟩) hB
theorem VarQ.lt {w : World} {B : Nat} {q : Rat} (h : VarQ w B q) : B < w.heap.size := by
  obtain ⟨b, A1, d1, c1, A2, d2, c2, e⟩ := h.raw
  exact heap_lt e
end Go.Proofs.YtnapdhfkgfjjfaaGreatDoor
