/- The reference's Errors. Printed by gen_r10ers.py. -/
import Derived.Test.YtlkjgjojahjapaaGreatDoorR10Err
import Derived.Test.YtlkjgjojahjapaaGreatDoorG40
import Derived.Test.YtlkjgjojahjapaaGreatDoorG42
import Derived.Test.YtlkjgjojahjapaaGreatDoorG24
import Derived.Test.YtlkjgjojahjapaaGreatDoorG28
namespace Go.Proofs.YtlkjgjojahjapaaGreatDoor
open Go Go.RowKit Go.Proofs

def TxEmp (W : World) (B : Nat) : Prop := Txt2 W B ⟨#[]⟩ ⟨#[]⟩
theorem TxEmp.on {w w' : World} {B : Nat} (h : TxEmp w B) (hb : Below w.heap.size w w') : TxEmp w' B := Txt2.on h hb
theorem TxEmp.facts {w : World} {B : Nat} (h : TxEmp w B) : w.cell? ⟨B, 0, none⟩ = some (.string ⟨#[]⟩) ∧ w.cell? ⟨B, 1, none⟩ = some (.string ⟨#[]⟩) ∧ w.frozen? ⟨B, 0, none⟩ = false ∧ w.frozen? ⟨B, 1, none⟩ = false ∧ B < w.heap.size := Txt2.facts h
theorem sz_err (p q r0 r1 x : Rat) (v : Int) (N : Nat) (hx : frN x ≤ x.den) (hd : x.den < 1000000) (hN : N ≤ 40) (hv : v = 1 ∨ v = 2) : Sz 100000 (errQ p q r0 r1 x v N) := by
  have h0 : x.den ^ N < T4 ^ 81 := by
    have h1 : x.den ^ N ≤ (T4 ^ 2) ^ N := Nat.pow_le_pow_left (show x.den ≤ T4 ^ 2 by unfold T4; omega) N
    rw [← Nat.pow_mul] at h1
    exact Nat.lt_of_le_of_lt h1 (Nat.pow_lt_pow_right (by unfold T4; omega) (by omega))
  have h2 := err_le (verN p q r0 r1) (verN_one p q r0 r1) v hv (frN x) (x.den - frN x) N
  rw [show frN x + (x.den - frN x) = x.den by omega] at h2
  exact Sz.mono (n := 81) (sz_mk (b := false) (Nat.pow_pos x.den_pos) (Nat.lt_of_le_of_lt h2 h0) h0) (by omega)
set_option maxHeartbeats 8000000 in
set_option maxRecDepth 100000 in
theorem rErrors_any (S0 S1 S2 S3 S4 S5 S6 S7 : ByteArray) (n : Int) (w : World) (z0 : S0.size ≤ 9223372036854775800) (z1 : S1.size ≤ 9223372036854775800) (z2 : S2.size ≤ 9223372036854775800) (z3 : S3.size ≤ 9223372036854775800) (z4 : S4.size ≤ 9223372036854775800) (z5 : S5.size ≤ 9223372036854775800) (z6 : S6.size ≤ 9223372036854775800) (z7 : S7.size ≤ 9223372036854775800) (htab : Tab w.heap.size w) :
    Calls Tryz.prog 8 #[.agg #[.string S0, .string S1, .string S2, .string S3, .string S4, .string S5, .string S6, .string S7], .int .i64 n] w fun e w' => e = .returned (ersV (TL S0 S1 S2 S3 S4 S5 S6 S7) (prQ (S0, S1)) (prQ (S2, S3)) (prQ (S4, S5)) (prQ (S6, S7)) n) ∧ Below w.heap.size w w' := by
  obtain ⟨L, hL⟩ : ∃ L, L = TL S0 S1 S2 S3 S4 S5 S6 S7 := ⟨_, rfl⟩
  have hok := tr_ok (S0 := S0) (S1 := S1) (S2 := S2) (S3 := S3) (S4 := S4) (S5 := S5) (S6 := S6) (S7 := S7)
  have hcr := tr_cRt (S0 := S0) (S1 := S1) (S2 := S2) (S3 := S3) (S4 := S4) (S5 := S5) (S6 := S6) (S7 := S7)
  have HCT := Lib.hid (fun W => rCheckTrial_any S0 S1 S2 S3 S4 S5 S6 S7 W z0 z1 z2 z3 z4 z5 z6 z7)
  rw [← hL] at hok hcr HCT ⊢
  obtain ⟨W0, hW0⟩ : ∃ W0, W0 = ((w.alloc (.cells #[.string S0, .string S1, .string S2, .string S3, .string S4, .string S5, .string S6, .string S7] 25)).alloc (.cells #[.string ⟨#[]⟩, .string ⟨#[]⟩] 23)).alloc (.cells #[.string ⟨#[]⟩, .string ⟨#[]⟩] 23) := ⟨_, rfl⟩
  have HST0 := Lib.hid (show St w W0 [(w.heap.size, .cells #[.string S0, .string S1, .string S2, .string S3, .string S4, .string S5, .string S6, .string S7] 25 (0, 0)), (w.heap.size + 1, .cells #[.string ⟨#[]⟩, .string ⟨#[]⟩] 23 (0, 0)), (w.heap.size + 2, .cells #[.string ⟨#[]⟩, .string ⟨#[]⟩] 23 (0, 0))] by rw [hW0]; exact (((St.start w).alloc _ _ rfl).alloc _ _ (by simp)).alloc _ _ (by simp))
  have HT1 := Lib.hid (show Txt2 W0 (w.heap.size + 1) ⟨#[]⟩ ⟨#[]⟩ from HST0.out.at 1 rfl)
  have HT2 := Lib.hid (show Txt2 W0 (w.heap.size + 2) ⟨#[]⟩ ⟨#[]⟩ from HST0.out.at 2 rfl)
  have HTAB := Lib.hid (fun W (hW : Below w.heap.size w W) => (htab.on hW).mono hW.size)
  obtain ⟨p, hp⟩ : ∃ q, q = prQ (S0, S1) := ⟨_, rfl⟩
  obtain ⟨q, hq⟩ : ∃ r, r = prQ (S2, S3) := ⟨_, rfl⟩
  obtain ⟨r0, hr0⟩ : ∃ q, q = prQ (S4, S5) := ⟨_, rfl⟩
  obtain ⟨r1, hr1⟩ : ∃ q, q = prQ (S6, S7) := ⟨_, rfl⟩
  rw [← hp, ← hq] at hcr HCT
  rw [← hp, ← hq, ← hr0, ← hr1] at hok ⊢
  have HC1 := Lib.hid (ersV_tr (L := L) (p := p) (q := q) (r0 := r0) (r1 := r1) (n := n))
  have HC2 := Lib.hid (ersV_rng (L := L) (p := p) (q := q) (r0 := r0) (r1 := r1) (n := n))
  have HC3 := Lib.hid (ersV_one (L := L) (p := p) (q := q) (r0 := r0) (r1 := r1) (n := n))
  have HC4 := Lib.hid (ersV_two (L := L) (p := p) (q := q) (r0 := r0) (r1 := r1) (n := n))
  have HC5 := Lib.hid (ersV_ok (L := L) (p := p) (q := q) (r0 := r0) (r1 := r1) (n := n))
  obtain ⟨C, hC⟩ : ∃ c, c = trCode L p q := ⟨_, rfl⟩
  obtain ⟨E, hE⟩ : ∃ c, c = ersV L p q r0 r1 n := ⟨_, rfl⟩
  rw [← hC] at HCT HC1 HC2 HC3 HC4 HC5 hok hcr
  rw [← hE] at HC1 HC2 HC3 HC4 HC5 ⊢
  have HPQ := Lib.hid (And.intro hp.symm (And.intro hq.symm (And.intro hr0.symm hr1.symm)))
  have p0 : W0.cell? ⟨w.heap.size, 0, none⟩ = some (.string S0) := HST0.out.cell 0 0 rfl rfl
  have p1 : W0.cell? ⟨w.heap.size, 1, none⟩ = some (.string S1) := HST0.out.cell 0 1 rfl rfl
  have p2 : W0.cell? ⟨w.heap.size, 2, none⟩ = some (.string S2) := HST0.out.cell 0 2 rfl rfl
  have p3 : W0.cell? ⟨w.heap.size, 3, none⟩ = some (.string S3) := HST0.out.cell 0 3 rfl rfl
  have p4 : W0.cell? ⟨w.heap.size, 4, none⟩ = some (.string S4) := HST0.out.cell 0 4 rfl rfl
  have p5 : W0.cell? ⟨w.heap.size, 5, none⟩ = some (.string S5) := HST0.out.cell 0 5 rfl rfl
  have p6 : W0.cell? ⟨w.heap.size, 6, none⟩ = some (.string S6) := HST0.out.cell 0 6 rfl rfl
  have p7 : W0.cell? ⟨w.heap.size, 7, none⟩ = some (.string S7) := HST0.out.cell 0 7 rfl rfl
  clear hL hp hq hr0 hr1 hC hE z0 z1 z2 z3 z4 z5 z6 z7 htab
  by_cases hz : C = 0
  · have HZ := Lib.hid hz
    have hok2 := hok hz
    obtain ⟨c0, c1, c2, c3⟩ := hcr hz
    have t1 : (C != 0) = false := by rw [hz]; rfl
    by_cases hr : n < 0 ∨ 40 < n
    · have HEV := Lib.hid (HC2.out hz hr)
      clear hz hok hcr hok2 c0 c1 c2 c3
      by_cases hn0 : n < 0
      · have t2 : decide (n < 0) = true := decide_eq_true hn0
        clear hr
        go_enter Tryz.func8, Tryz.ntmps8
        go_upto_region 1 with fail
        rw [← hW0]
        clear hW0
        go_wp2_with fail
        (with_reducible refine (HCT.out _).mono ?_)
        clear p0 p1 p2 p3 p4 p5 p6 p7
        rintro e w1 ⟨rfl, hb1⟩
        have hh1 := HT1.out.on hb1
        have hh2 := HT2.out.on hb1
        have HB := Lib.hid (below_next HST0.out.below hb1)
        clear hb1
        obtain ⟨s0, s1, s2, s3, s4⟩ := (hh1).facts
        obtain ⟨o0, o1, o2, o3, o4⟩ := (hh2).facts
        have HFN := Lib.hid (fun a b c d => txt2_below (B := w.heap.size + 2) (txt2_below (B := w.heap.size + 1) HB.out (by omega) a b) (by omega) c d)
        go_wp2
        refine bodyPost_ret (v := .tuple #[.agg #[.string ⟨#[]⟩, .string ⟨#[]⟩], .agg #[.string ⟨#[]⟩, .string ⟨#[]⟩], .int .i64 9]) (by simp [results, Tryz.results8, go_sem, s0, s1, o0, o1]) rfl ⟨by rw [HEV.out]; rfl, HFN.out _ _ _ _⟩
      · have t2 : decide (n < 0) = false := decide_eq_false hn0
        have hn40 : 40 < n := by omega
        have t3 : decide (40 < n) = true := decide_eq_true hn40
        clear hr
        go_enter Tryz.func8, Tryz.ntmps8
        go_upto_region 1 with fail
        rw [← hW0]
        clear hW0
        go_wp2_with fail
        (with_reducible refine (HCT.out _).mono ?_)
        clear p0 p1 p2 p3 p4 p5 p6 p7
        rintro e w1 ⟨rfl, hb1⟩
        have hh1 := HT1.out.on hb1
        have hh2 := HT2.out.on hb1
        have HB := Lib.hid (below_next HST0.out.below hb1)
        clear hb1
        obtain ⟨s0, s1, s2, s3, s4⟩ := (hh1).facts
        obtain ⟨o0, o1, o2, o3, o4⟩ := (hh2).facts
        have HFN := Lib.hid (fun a b c d => txt2_below (B := w.heap.size + 2) (txt2_below (B := w.heap.size + 1) HB.out (by omega) a b) (by omega) c d)
        go_wp2
        refine bodyPost_ret (v := .tuple #[.agg #[.string ⟨#[]⟩, .string ⟨#[]⟩], .agg #[.string ⟨#[]⟩, .string ⟨#[]⟩], .int .i64 9]) (by simp [results, Tryz.results8, go_sem, s0, s1, o0, o1]) rfl ⟨by rw [HEV.out]; rfl, HFN.out _ _ _ _⟩
    · have hn0 : ¬ n < 0 := by omega
      have hn40 : ¬ 40 < n := by omega
      have t2 : decide (n < 0) = false := decide_eq_false hn0
      have t3 : decide (40 < n) = false := decide_eq_false hn40
      have HC3 := Lib.hid (HC3.out hz hr)
      have HC4 := Lib.hid (HC4.out hz hr)
      have HC5 := Lib.hid (HC5.out hz hr)
      obtain ⟨N, rfl⟩ : ∃ N : Nat, n = N := ⟨n.toNat, by omega⟩
      rw [Int.toNat_natCast] at HC3 HC4 HC5
      have hN : N ≤ 40 := by omega
      have HER1 := Lib.hid (fun W u (hu : FracR W u p) => rErrorOf_any S0 S1 S2 S3 S4 S5 S6 S7 N u p true 2 p q r0 r1 W hu (by have := hok2.g.p1; omega) hok2.s.p0 hN rfl HPQ.out.1 HPQ.out.2.1 HPQ.out.2.2.1 HPQ.out.2.2.2 c0 c1 c2 c3 hok2)
      have HER2 := Lib.hid (fun W u (hu : FracR W u q) => rErrorOf_any S0 S1 S2 S3 S4 S5 S6 S7 N u q false 1 p q r0 r1 W hu (by have := hok2.g.q1; omega) hok2.s.q0 hN rfl HPQ.out.1 HPQ.out.2.1 HPQ.out.2.2.1 HPQ.out.2.2.2 c0 c1 c2 c3 hok2)
      have HF1 := Lib.hid (fun W => (show Calls Tryz.prog 10 #[.agg #[.string S0, .string S1]] W (FracPost p W) from by rw [← HPQ.out.1]; exact rFrom_any S0 S1 _ _ W rfl rfl c0))
      have HF2 := Lib.hid (fun W => (show Calls Tryz.prog 10 #[.agg #[.string S2, .string S3]] W (FracPost q W) from by rw [← HPQ.out.2.1]; exact rFrom_any S2 S3 _ _ W rfl rfl c1))
      have HS1 := Lib.hid (sz_err p q r0 r1 p 2 N (by have := hok2.g.p1; omega) hok2.s.p0 hN (.inr rfl))
      have HS2 := Lib.hid (sz_err p q r0 r1 q 1 N (by have := hok2.g.q1; omega) hok2.s.q0 hN (.inl rfl))
      obtain ⟨e1, he1⟩ : ∃ e, e = errQ p q r0 r1 p 2 N := ⟨_, rfl⟩
      obtain ⟨e2, he2⟩ : ∃ e, e = errQ p q r0 r1 q 1 N := ⟨_, rfl⟩
      rw [← he1] at HER1 HS1 HC3 HC4 HC5
      rw [← he2] at HER2 HS2 HC4 HC5
      obtain ⟨T1, T2, hT12⟩ : ∃ x y : ByteArray, ratOf (rtT e1) = .agg #[.string x, .string y] := ⟨_, _, rfl⟩
      obtain ⟨T3, T4, hT34⟩ : ∃ x y : ByteArray, ratOf (rtT e2) = .agg #[.string x, .string y] := ⟨_, _, rfl⟩
      rw [hT12, hT34] at HC5
      have HRA := Lib.hid (fun W u (hb : Below w.heap.size w W) (h : FracR W u e1) => rResult_any u e1 W h HS1.out (HTAB.out W hb))
      have HRB := Lib.hid (fun W u (hb : Below w.heap.size w W) (h : FracR W u e2) => rResult_any u e2 W h HS2.out (HTAB.out W hb))
      rw [hT12] at HRA
      rw [hT34] at HRB
      obtain ⟨ka, hka⟩ : ∃ k, k = rtC e1 := ⟨_, rfl⟩
      obtain ⟨kb, hkb⟩ : ∃ k, k = rtC e2 := ⟨_, rfl⟩
      rw [← hka] at HRA HC3 HC4 HC5
      rw [← hkb] at HRB HC4 HC5
      have HK := Lib.hid (show ∀ X, Below W0.heap.size W0 X → X.cell? ⟨w.heap.size, 0, none⟩ = some (.string S0) ∧ X.cell? ⟨w.heap.size, 1, none⟩ = some (.string S1) ∧ X.cell? ⟨w.heap.size, 2, none⟩ = some (.string S2) ∧ X.cell? ⟨w.heap.size, 3, none⟩ = some (.string S3) ∧ X.cell? ⟨w.heap.size, 4, none⟩ = some (.string S4) ∧ X.cell? ⟨w.heap.size, 5, none⟩ = some (.string S5) ∧ X.cell? ⟨w.heap.size, 6, none⟩ = some (.string S6) ∧ X.cell? ⟨w.heap.size, 7, none⟩ = some (.string S7) from fun X hX => ⟨(HST0.out.call hX).cell 0 0 rfl rfl, (HST0.out.call hX).cell 0 1 rfl rfl, (HST0.out.call hX).cell 0 2 rfl rfl, (HST0.out.call hX).cell 0 3 rfl rfl, (HST0.out.call hX).cell 0 4 rfl rfl, (HST0.out.call hX).cell 0 5 rfl rfl, (HST0.out.call hX).cell 0 6 rfl rfl, (HST0.out.call hX).cell 0 7 rfl rfl⟩)
      clear hz hr hok hcr hok2 c0 c1 c2 c3 he1 he2 hT12 hT34 hka hkb
      go_enter Tryz.func8, Tryz.ntmps8
      go_upto_region 1 with fail
      rw [← hW0]
      clear hW0
      go_wp2_with fail
      (with_reducible refine (HCT.out _).mono ?_)
      clear p0 p1 p2 p3 p4 p5 p6 p7
      rintro e w1 ⟨rfl, hb1⟩
      have HB01 := Lib.hid hb1
      have HB1 := Lib.hid (below_next HST0.out.below hb1)
      have HKS := Lib.hid (show ∀ X, Below w1.heap.size w1 X → (fun X => Below w1.heap.size w1 X ∧ X.cell? ⟨w.heap.size, 0, none⟩ = some (.string S0) ∧ X.cell? ⟨w.heap.size, 1, none⟩ = some (.string S1) ∧ X.cell? ⟨w.heap.size, 2, none⟩ = some (.string S2) ∧ X.cell? ⟨w.heap.size, 3, none⟩ = some (.string S3) ∧ X.cell? ⟨w.heap.size, 4, none⟩ = some (.string S4) ∧ X.cell? ⟨w.heap.size, 5, none⟩ = some (.string S5) ∧ X.cell? ⟨w.heap.size, 6, none⟩ = some (.string S6) ∧ X.cell? ⟨w.heap.size, 7, none⟩ = some (.string S7)) X from fun X hX => ⟨hX, HK.out X (below_next HB01.out hX)⟩)
      clear hb1
      go_upto_region 6 with fail
      go_cut [8, 9] (fun x ev wx => ∃ Bf, x = .pointer (some ⟨Bf, 0, none⟩) ∧ ev = .int .i64 ka ∧ w1.heap.size ≤ Bf ∧ Txt2 wx Bf T1 T2 ∧ Below w1.heap.size w1 wx)
      case first =>
        refine wp_region_noPanic ?_
        refine wp_region_held_drew (S := (fun X => Below w1.heap.size w1 X ∧ X.cell? ⟨w.heap.size, 0, none⟩ = some (.string S0) ∧ X.cell? ⟨w.heap.size, 1, none⟩ = some (.string S1) ∧ X.cell? ⟨w.heap.size, 2, none⟩ = some (.string S2) ∧ X.cell? ⟨w.heap.size, 3, none⟩ = some (.string S3) ∧ X.cell? ⟨w.heap.size, 4, none⟩ = some (.string S4) ∧ X.cell? ⟨w.heap.size, 5, none⟩ = some (.string S5) ∧ X.cell? ⟨w.heap.size, 6, none⟩ = some (.string S6) ∧ X.cell? ⟨w.heap.size, 7, none⟩ = some (.string S7))) (by kernel_rfl) (HKS.out _ (Below.refl _ w1).drew) (fun HS0 => ?_)
        have hbx0 : Below w1.heap.size w1 w1.drew := (Below.refl _ _).drew
        obtain ⟨Xx0, hXx0⟩ : ∃ X, X = w1.drew := ⟨_, rfl⟩
        rw [← hXx0] at hbx0 HS0 ⊢
        have HBx0 := Lib.hid hbx0
        clear hbx0 hXx0
        refine wpAnyH_take (i := 0) (v := ?_) rfl (by kernel_rfl) (by kernel_rfl) (by kernel_rfl) (fun _ _ _ h => h) (Or.inl ⟨by rfl, ?_⟩) HS0 ?_
        rotate_left
        · intro W hW; (try dsimp only at hW); go_simp; try (with_reducible rfl)

        refine wpAnyH_take (i := 1) (v := ?_) rfl (by kernel_rfl) (by kernel_rfl) (by kernel_rfl) (fun _ _ _ h => h) (Or.inl ⟨by rfl, ?_⟩) HS0 ?_
        rotate_left
        · intro W hW; (try dsimp only at hW); go_simp; try (with_reducible rfl)

        refine wpAnyH_take (i := 2) (v := ?_) rfl (by kernel_rfl) (by kernel_rfl) (by kernel_rfl) (fun _ _ _ h => h) (Or.inl ⟨by rfl, ?_⟩) HS0 ?_
        rotate_left
        · intro W hW; (try dsimp only at hW); go_simp; try (with_reducible rfl)

        refine wpAnyH_take (i := 3) (v := ?_) rfl (by kernel_rfl) (by kernel_rfl) (by kernel_rfl) (fun _ _ _ h => h) (Or.inl ⟨by rfl, ?_⟩) HS0 ?_
        rotate_left
        · intro W hW; (try dsimp only at hW); go_simp; try (with_reducible rfl)

        clear HS0
        refine wpAnyH_ready (rs := [4, 10]) (by kernel_rfl) (by simp) ?_
        refine AllReadyH.cons rfl (fun K hK => ?_) ?_
        {
        go_simp
        (with_reducible refine (HF1.out Xx0).mono ?_)
        rintro e Xx1 ⟨v1, rfl, hvx1, hbx1⟩
        have HBx1 := Lib.hid (below_next (HBx0.out) hbx1)
        refine hK.out _ _ (HKS.out _ HBx1.out) ?_
        clear hK K
        intro _

        refine wpAnyH_ready (rs := [5, 10]) (by kernel_rfl) (by simp) ?_
        refine AllReadyH.cons rfl (fun K hK => ?_) ?_
        {
        go_simp
        (with_reducible refine (HER1.out Xx1 _ (hvx1)).mono ?_)
        rintro e Xx2 ⟨v2, rfl, hvx2, hbx2⟩
        have HBx2 := Lib.hid (below_next (HBx1.out) hbx2)
        refine hK.out _ _ (HKS.out _ HBx2.out) ?_
        clear hK K
        intro _

        refine wpAnyH_ready (rs := [6, 10]) (by kernel_rfl) (by simp) ?_
        refine AllReadyH.cons rfl (fun K hK => ?_) ?_
        {
        go_simp
        (with_reducible refine (HRA.out Xx2 _ (below_next HB1.out (HBx2.out)) (hvx2)).mono ?_)
        rintro e Xx3 ⟨rfl, hbx3⟩
        have HBx3 := Lib.hid (below_next (HBx2.out) hbx3)
        refine hK.out _ _ (HKS.out _ HBx3.out) ?_
        clear hK K
        intro _

        have HS0 := HKS.out _ (HBx3.out)
        refine wpAnyH_take (i := 7) (v := ?_) rfl (by kernel_rfl) (by kernel_rfl) (by kernel_rfl) (fun _ _ _ h => h) (Or.inl ⟨by rfl, ?_⟩) HS0 ?_
        rotate_left
        · intro W hW; (try dsimp only at hW); go_simp; try (with_reducible rfl)

        clear HS0
        have HS0 := HKS.out _ (HBx3.out)
        refine wpAnyH_take (i := 8) (v := ?_) rfl (by kernel_rfl) (by kernel_rfl) (by kernel_rfl) (fun _ _ _ h => h) (Or.inl ⟨by rfl, ?_⟩) HS0 ?_
        rotate_left
        · intro W hW; (try dsimp only at hW); go_simp; try (with_reducible rfl)

        clear HS0
        have HS0 := HKS.out _ (HBx3.out)
        refine wpAnyH_take (i := 9) (v := ?_) rfl (by kernel_rfl) (by kernel_rfl) (by kernel_rfl) (fun _ _ _ h => h) (Or.inl ⟨by rfl, ?_⟩) HS0 ?_
        rotate_left
        · intro W hW; (try dsimp only at hW); go_simp; try (with_reducible rfl)

        clear HS0
        refine run_one (i := 10) (by kernel_rfl) rfl rfl ?_
        intro K hK
        obtain ⟨Xx4, hXx4⟩ : ∃ X, X = Xx3.alloc (.cells #[.string ⟨#[]⟩, .string ⟨#[]⟩] 23) := ⟨_, rfl⟩
        have hbx4 : Below Xx3.heap.size Xx3 Xx4 := by rw [hXx4]; exact (Below.refl _ _).alloc (Nat.le_refl _) _
        have hxx4 : TxEmp Xx4 Xx3.heap.size := by rw [hXx4]; exact alloc_at _ _ _ rfl
        have HBx4 := Lib.hid (below_next (HBx3.out) hbx4)
        have hwx4 : w1.heap.size ≤ Xx3.heap.size := (HBx3.out).size
        go_simp
        rw [← hXx4]
        clear hXx4
        refine hK.out _ _ (HKS.out _ HBx4.out) ?_
        clear hK K
        intro _

        obtain ⟨k0, k1, z0, z1, hlt⟩ := TxEmp.facts (hxx4)
        obtain ⟨Xx5, hXx5⟩ : ∃ X, X = (Xx4.setCell ⟨Xx3.heap.size, 0, none⟩ (.string T1)).setCell ⟨Xx3.heap.size, 1, none⟩ (.string T2) := ⟨_, rfl⟩
        have HVx5 := Lib.hid (show Txt2 Xx5 Xx3.heap.size T1 T2 by rw [hXx5]; exact txt2_set (hxx4))
        have HBx5 := Lib.hid (show Below w1.heap.size w1 Xx5 by rw [hXx5]; exact ((HBx4.out).setCell (p := ⟨Xx3.heap.size, 0, none⟩) hwx4 _).setCell (p := ⟨Xx3.heap.size, 1, none⟩) hwx4 _)
        refine run_one (i := 11) (by kernel_rfl) rfl rfl ?_
        intro K hK
        go_simp
        rw [← hXx5]
        refine hK.out _ _ (HKS.out _ HBx5.out) ?_
        clear hK K k0 k1 z0 z1 hlt hXx5
        intro _

        have HS0 := HKS.out _ HBx5.out
        refine wpAnyH_take (i := 12) (v := ?_) rfl (by kernel_rfl) (by kernel_rfl) (by kernel_rfl) (fun _ _ _ h => h) (Or.inl ⟨by rfl, ?_⟩) HS0 ?_
        rotate_left
        · intro W hW; (try dsimp only at hW); go_simp; try (with_reducible rfl)

        clear HS0
        refine wpAnyH_done (by kernel_rfl) ?_ _
        refine NoPanic.normal ?_
        go_wp2_with fail
        go_meet
        exact ⟨Xx3.heap.size, rfl, rfl, hwx4, HVx5.out, HBx5.out⟩
        }
        refine AllReadyH.cons rfl (fun K hK => ?_) ?_
        {
        obtain ⟨Xx6, hXx6⟩ : ∃ X, X = Xx2.alloc (.cells #[.string ⟨#[]⟩, .string ⟨#[]⟩] 23) := ⟨_, rfl⟩
        have hbx6 : Below Xx2.heap.size Xx2 Xx6 := by rw [hXx6]; exact (Below.refl _ _).alloc (Nat.le_refl _) _
        have hxx6 : TxEmp Xx6 Xx2.heap.size := by rw [hXx6]; exact alloc_at _ _ _ rfl
        have HBx6 := Lib.hid (below_next (HBx2.out) hbx6)
        have hwx6 : w1.heap.size ≤ Xx2.heap.size := (HBx2.out).size
        go_simp
        rw [← hXx6]
        clear hXx6
        refine hK.out _ _ (HKS.out _ HBx6.out) ?_
        clear hK K
        intro _

        refine run_one (i := 6) (by kernel_rfl) rfl rfl ?_
        intro K hK
        go_simp
        (with_reducible refine (HRA.out Xx6 _ (below_next HB1.out (HBx6.out)) ((hvx2).on hbx6)).mono ?_)
        rintro e Xx7 ⟨rfl, hbx7⟩
        have HBx7 := Lib.hid (below_next (HBx6.out) hbx7)
        refine hK.out _ _ (HKS.out _ HBx7.out) ?_
        clear hK K
        intro _

        have HS0 := HKS.out _ (HBx7.out)
        refine wpAnyH_take (i := 7) (v := ?_) rfl (by kernel_rfl) (by kernel_rfl) (by kernel_rfl) (fun _ _ _ h => h) (Or.inl ⟨by rfl, ?_⟩) HS0 ?_
        rotate_left
        · intro W hW; (try dsimp only at hW); go_simp; try (with_reducible rfl)

        clear HS0
        have HS0 := HKS.out _ (HBx7.out)
        refine wpAnyH_take (i := 8) (v := ?_) rfl (by kernel_rfl) (by kernel_rfl) (by kernel_rfl) (fun _ _ _ h => h) (Or.inl ⟨by rfl, ?_⟩) HS0 ?_
        rotate_left
        · intro W hW; (try dsimp only at hW); go_simp; try (with_reducible rfl)

        clear HS0
        have HS0 := HKS.out _ (HBx7.out)
        refine wpAnyH_take (i := 9) (v := ?_) rfl (by kernel_rfl) (by kernel_rfl) (by kernel_rfl) (fun _ _ _ h => h) (Or.inl ⟨by rfl, ?_⟩) HS0 ?_
        rotate_left
        · intro W hW; (try dsimp only at hW); go_simp; try (with_reducible rfl)

        clear HS0
        obtain ⟨k0, k1, z0, z1, hlt⟩ := TxEmp.facts ((TxEmp.on hxx6 hbx7))
        obtain ⟨Xx8, hXx8⟩ : ∃ X, X = (Xx7.setCell ⟨Xx2.heap.size, 0, none⟩ (.string T1)).setCell ⟨Xx2.heap.size, 1, none⟩ (.string T2) := ⟨_, rfl⟩
        have HVx8 := Lib.hid (show Txt2 Xx8 Xx2.heap.size T1 T2 by rw [hXx8]; exact txt2_set ((TxEmp.on hxx6 hbx7)))
        have HBx8 := Lib.hid (show Below w1.heap.size w1 Xx8 by rw [hXx8]; exact ((HBx7.out).setCell (p := ⟨Xx2.heap.size, 0, none⟩) hwx6 _).setCell (p := ⟨Xx2.heap.size, 1, none⟩) hwx6 _)
        refine run_one (i := 11) (by kernel_rfl) rfl rfl ?_
        intro K hK
        go_simp
        rw [← hXx8]
        refine hK.out _ _ (HKS.out _ HBx8.out) ?_
        clear hK K k0 k1 z0 z1 hlt hXx8
        intro _

        have HS0 := HKS.out _ HBx8.out
        refine wpAnyH_take (i := 12) (v := ?_) rfl (by kernel_rfl) (by kernel_rfl) (by kernel_rfl) (fun _ _ _ h => h) (Or.inl ⟨by rfl, ?_⟩) HS0 ?_
        rotate_left
        · intro W hW; (try dsimp only at hW); go_simp; try (with_reducible rfl)

        clear HS0
        refine wpAnyH_done (by kernel_rfl) ?_ _
        refine NoPanic.normal ?_
        go_wp2_with fail
        go_meet
        exact ⟨Xx2.heap.size, rfl, rfl, hwx6, HVx8.out, HBx8.out⟩
        }
        exact AllReadyH.nil
        }
        refine AllReadyH.cons rfl (fun K hK => ?_) ?_
        {
        obtain ⟨Xx9, hXx9⟩ : ∃ X, X = Xx1.alloc (.cells #[.string ⟨#[]⟩, .string ⟨#[]⟩] 23) := ⟨_, rfl⟩
        have hbx9 : Below Xx1.heap.size Xx1 Xx9 := by rw [hXx9]; exact (Below.refl _ _).alloc (Nat.le_refl _) _
        have hxx9 : TxEmp Xx9 Xx1.heap.size := by rw [hXx9]; exact alloc_at _ _ _ rfl
        have HBx9 := Lib.hid (below_next (HBx1.out) hbx9)
        have hwx9 : w1.heap.size ≤ Xx1.heap.size := (HBx1.out).size
        go_simp
        rw [← hXx9]
        clear hXx9
        refine hK.out _ _ (HKS.out _ HBx9.out) ?_
        clear hK K
        intro _

        refine run_one (i := 5) (by kernel_rfl) rfl rfl ?_
        intro K hK
        go_simp
        (with_reducible refine (HER1.out Xx9 _ ((hvx1).on hbx9)).mono ?_)
        rintro e Xx10 ⟨v10, rfl, hvx10, hbx10⟩
        have HBx10 := Lib.hid (below_next (HBx9.out) hbx10)
        refine hK.out _ _ (HKS.out _ HBx10.out) ?_
        clear hK K
        intro _

        refine run_one (i := 6) (by kernel_rfl) rfl rfl ?_
        intro K hK
        go_simp
        (with_reducible refine (HRA.out Xx10 _ (below_next HB1.out (HBx10.out)) (hvx10)).mono ?_)
        rintro e Xx11 ⟨rfl, hbx11⟩
        have HBx11 := Lib.hid (below_next (HBx10.out) hbx11)
        refine hK.out _ _ (HKS.out _ HBx11.out) ?_
        clear hK K
        intro _

        have HS0 := HKS.out _ (HBx11.out)
        refine wpAnyH_take (i := 7) (v := ?_) rfl (by kernel_rfl) (by kernel_rfl) (by kernel_rfl) (fun _ _ _ h => h) (Or.inl ⟨by rfl, ?_⟩) HS0 ?_
        rotate_left
        · intro W hW; (try dsimp only at hW); go_simp; try (with_reducible rfl)

        clear HS0
        have HS0 := HKS.out _ (HBx11.out)
        refine wpAnyH_take (i := 8) (v := ?_) rfl (by kernel_rfl) (by kernel_rfl) (by kernel_rfl) (fun _ _ _ h => h) (Or.inl ⟨by rfl, ?_⟩) HS0 ?_
        rotate_left
        · intro W hW; (try dsimp only at hW); go_simp; try (with_reducible rfl)

        clear HS0
        have HS0 := HKS.out _ (HBx11.out)
        refine wpAnyH_take (i := 9) (v := ?_) rfl (by kernel_rfl) (by kernel_rfl) (by kernel_rfl) (fun _ _ _ h => h) (Or.inl ⟨by rfl, ?_⟩) HS0 ?_
        rotate_left
        · intro W hW; (try dsimp only at hW); go_simp; try (with_reducible rfl)

        clear HS0
        obtain ⟨k0, k1, z0, z1, hlt⟩ := TxEmp.facts ((TxEmp.on (TxEmp.on hxx9 hbx10) hbx11))
        obtain ⟨Xx12, hXx12⟩ : ∃ X, X = (Xx11.setCell ⟨Xx1.heap.size, 0, none⟩ (.string T1)).setCell ⟨Xx1.heap.size, 1, none⟩ (.string T2) := ⟨_, rfl⟩
        have HVx12 := Lib.hid (show Txt2 Xx12 Xx1.heap.size T1 T2 by rw [hXx12]; exact txt2_set ((TxEmp.on (TxEmp.on hxx9 hbx10) hbx11)))
        have HBx12 := Lib.hid (show Below w1.heap.size w1 Xx12 by rw [hXx12]; exact ((HBx11.out).setCell (p := ⟨Xx1.heap.size, 0, none⟩) hwx9 _).setCell (p := ⟨Xx1.heap.size, 1, none⟩) hwx9 _)
        refine run_one (i := 11) (by kernel_rfl) rfl rfl ?_
        intro K hK
        go_simp
        rw [← hXx12]
        refine hK.out _ _ (HKS.out _ HBx12.out) ?_
        clear hK K k0 k1 z0 z1 hlt hXx12
        intro _

        have HS0 := HKS.out _ HBx12.out
        refine wpAnyH_take (i := 12) (v := ?_) rfl (by kernel_rfl) (by kernel_rfl) (by kernel_rfl) (fun _ _ _ h => h) (Or.inl ⟨by rfl, ?_⟩) HS0 ?_
        rotate_left
        · intro W hW; (try dsimp only at hW); go_simp; try (with_reducible rfl)

        clear HS0
        refine wpAnyH_done (by kernel_rfl) ?_ _
        refine NoPanic.normal ?_
        go_wp2_with fail
        go_meet
        exact ⟨Xx1.heap.size, rfl, rfl, hwx9, HVx12.out, HBx12.out⟩
        }
        exact AllReadyH.nil
        }
        refine AllReadyH.cons rfl (fun K hK => ?_) ?_
        {
        obtain ⟨Xx13, hXx13⟩ : ∃ X, X = Xx0.alloc (.cells #[.string ⟨#[]⟩, .string ⟨#[]⟩] 23) := ⟨_, rfl⟩
        have hbx13 : Below Xx0.heap.size Xx0 Xx13 := by rw [hXx13]; exact (Below.refl _ _).alloc (Nat.le_refl _) _
        have hxx13 : TxEmp Xx13 Xx0.heap.size := by rw [hXx13]; exact alloc_at _ _ _ rfl
        have HBx13 := Lib.hid (below_next (HBx0.out) hbx13)
        have hwx13 : w1.heap.size ≤ Xx0.heap.size := (HBx0.out).size
        go_simp
        rw [← hXx13]
        clear hXx13
        refine hK.out _ _ (HKS.out _ HBx13.out) ?_
        clear hK K
        intro _

        refine run_one (i := 4) (by kernel_rfl) rfl rfl ?_
        intro K hK
        go_simp
        (with_reducible refine (HF1.out Xx13).mono ?_)
        rintro e Xx14 ⟨v14, rfl, hvx14, hbx14⟩
        have HBx14 := Lib.hid (below_next (HBx13.out) hbx14)
        refine hK.out _ _ (HKS.out _ HBx14.out) ?_
        clear hK K
        intro _

        refine run_one (i := 5) (by kernel_rfl) rfl rfl ?_
        intro K hK
        go_simp
        (with_reducible refine (HER1.out Xx14 _ (hvx14)).mono ?_)
        rintro e Xx15 ⟨v15, rfl, hvx15, hbx15⟩
        have HBx15 := Lib.hid (below_next (HBx14.out) hbx15)
        refine hK.out _ _ (HKS.out _ HBx15.out) ?_
        clear hK K
        intro _

        refine run_one (i := 6) (by kernel_rfl) rfl rfl ?_
        intro K hK
        go_simp
        (with_reducible refine (HRA.out Xx15 _ (below_next HB1.out (HBx15.out)) (hvx15)).mono ?_)
        rintro e Xx16 ⟨rfl, hbx16⟩
        have HBx16 := Lib.hid (below_next (HBx15.out) hbx16)
        refine hK.out _ _ (HKS.out _ HBx16.out) ?_
        clear hK K
        intro _

        have HS0 := HKS.out _ (HBx16.out)
        refine wpAnyH_take (i := 7) (v := ?_) rfl (by kernel_rfl) (by kernel_rfl) (by kernel_rfl) (fun _ _ _ h => h) (Or.inl ⟨by rfl, ?_⟩) HS0 ?_
        rotate_left
        · intro W hW; (try dsimp only at hW); go_simp; try (with_reducible rfl)

        clear HS0
        have HS0 := HKS.out _ (HBx16.out)
        refine wpAnyH_take (i := 8) (v := ?_) rfl (by kernel_rfl) (by kernel_rfl) (by kernel_rfl) (fun _ _ _ h => h) (Or.inl ⟨by rfl, ?_⟩) HS0 ?_
        rotate_left
        · intro W hW; (try dsimp only at hW); go_simp; try (with_reducible rfl)

        clear HS0
        have HS0 := HKS.out _ (HBx16.out)
        refine wpAnyH_take (i := 9) (v := ?_) rfl (by kernel_rfl) (by kernel_rfl) (by kernel_rfl) (fun _ _ _ h => h) (Or.inl ⟨by rfl, ?_⟩) HS0 ?_
        rotate_left
        · intro W hW; (try dsimp only at hW); go_simp; try (with_reducible rfl)

        clear HS0
        obtain ⟨k0, k1, z0, z1, hlt⟩ := TxEmp.facts ((TxEmp.on (TxEmp.on (TxEmp.on hxx13 hbx14) hbx15) hbx16))
        obtain ⟨Xx17, hXx17⟩ : ∃ X, X = (Xx16.setCell ⟨Xx0.heap.size, 0, none⟩ (.string T1)).setCell ⟨Xx0.heap.size, 1, none⟩ (.string T2) := ⟨_, rfl⟩
        have HVx17 := Lib.hid (show Txt2 Xx17 Xx0.heap.size T1 T2 by rw [hXx17]; exact txt2_set ((TxEmp.on (TxEmp.on (TxEmp.on hxx13 hbx14) hbx15) hbx16)))
        have HBx17 := Lib.hid (show Below w1.heap.size w1 Xx17 by rw [hXx17]; exact ((HBx16.out).setCell (p := ⟨Xx0.heap.size, 0, none⟩) hwx13 _).setCell (p := ⟨Xx0.heap.size, 1, none⟩) hwx13 _)
        refine run_one (i := 11) (by kernel_rfl) rfl rfl ?_
        intro K hK
        go_simp
        rw [← hXx17]
        refine hK.out _ _ (HKS.out _ HBx17.out) ?_
        clear hK K k0 k1 z0 z1 hlt hXx17
        intro _

        have HS0 := HKS.out _ HBx17.out
        refine wpAnyH_take (i := 12) (v := ?_) rfl (by kernel_rfl) (by kernel_rfl) (by kernel_rfl) (fun _ _ _ h => h) (Or.inl ⟨by rfl, ?_⟩) HS0 ?_
        rotate_left
        · intro W hW; (try dsimp only at hW); go_simp; try (with_reducible rfl)

        clear HS0
        refine wpAnyH_done (by kernel_rfl) ?_ _
        refine NoPanic.normal ?_
        go_wp2_with fail
        go_meet
        exact ⟨Xx0.heap.size, rfl, rfl, hwx13, HVx17.out, HBx17.out⟩
        }
        exact AllReadyH.nil
      case rest =>
        obtain ⟨Bf, rfl, rfl, hBf, htf, hbc⟩ := hcut
        have HBF := Lib.hid hBf
        have HTF := Lib.hid htf
        have HBC := Lib.hid hbc
        have HB5 := Lib.hid (below_next HB1.out hbc)
        have HB02 := Lib.hid (below_next HB01.out hbc)
        obtain ⟨wd, rfl⟩ : ∃ W : World, W = wc := ⟨_, rfl⟩
        clear hBf htf hbc
        by_cases hka0 : ka = 0
        · have t4 : (ka != 0) = false := by rw [hka0]; rfl
          have HC4 := Lib.hid (HC4.out hka0)
          have HC5 := Lib.hid (HC5.out hka0)
          have HKS2 := Lib.hid (show ∀ X, Below wd.heap.size wd X → (fun X => Below wd.heap.size wd X ∧ X.cell? ⟨w.heap.size, 0, none⟩ = some (.string S0) ∧ X.cell? ⟨w.heap.size, 1, none⟩ = some (.string S1) ∧ X.cell? ⟨w.heap.size, 2, none⟩ = some (.string S2) ∧ X.cell? ⟨w.heap.size, 3, none⟩ = some (.string S3) ∧ X.cell? ⟨w.heap.size, 4, none⟩ = some (.string S4) ∧ X.cell? ⟨w.heap.size, 5, none⟩ = some (.string S5) ∧ X.cell? ⟨w.heap.size, 6, none⟩ = some (.string S6) ∧ X.cell? ⟨w.heap.size, 7, none⟩ = some (.string S7)) X from fun X hX => ⟨hX, HK.out X (below_next HB02.out hX)⟩)
          clear hka0
          go_upto_region 9 with fail
          go_cut [9, 10] (fun ev x wx => ∃ Bg, x = .pointer (some ⟨Bg, 0, none⟩) ∧ ev = .int .i64 kb ∧ wd.heap.size ≤ Bg ∧ Txt2 wx Bg T3 T4 ∧ Below wd.heap.size wd wx)
          case first =>
            refine wp_region_noPanic ?_
            refine wp_region_held_drew (S := (fun X => Below wd.heap.size wd X ∧ X.cell? ⟨w.heap.size, 0, none⟩ = some (.string S0) ∧ X.cell? ⟨w.heap.size, 1, none⟩ = some (.string S1) ∧ X.cell? ⟨w.heap.size, 2, none⟩ = some (.string S2) ∧ X.cell? ⟨w.heap.size, 3, none⟩ = some (.string S3) ∧ X.cell? ⟨w.heap.size, 4, none⟩ = some (.string S4) ∧ X.cell? ⟨w.heap.size, 5, none⟩ = some (.string S5) ∧ X.cell? ⟨w.heap.size, 6, none⟩ = some (.string S6) ∧ X.cell? ⟨w.heap.size, 7, none⟩ = some (.string S7))) (by kernel_rfl) (HKS2.out _ (Below.refl _ wd).drew) (fun HS0 => ?_)
            have hbx0 : Below wd.heap.size wd wd.drew := (Below.refl _ _).drew
            obtain ⟨Xx0, hXx0⟩ : ∃ X, X = wd.drew := ⟨_, rfl⟩
            rw [← hXx0] at hbx0 HS0 ⊢
            have HBx0 := Lib.hid hbx0
            clear hbx0 hXx0
            refine wpAnyH_take (i := 0) (v := ?_) rfl (by kernel_rfl) (by kernel_rfl) (by kernel_rfl) (fun _ _ _ h => h) (Or.inl ⟨by rfl, ?_⟩) HS0 ?_
            rotate_left
            · intro W hW; (try dsimp only at hW); go_simp; try (with_reducible rfl)

            refine wpAnyH_take (i := 1) (v := ?_) rfl (by kernel_rfl) (by kernel_rfl) (by kernel_rfl) (fun _ _ _ h => h) (Or.inl ⟨by rfl, ?_⟩) HS0 ?_
            rotate_left
            · intro W hW; (try dsimp only at hW); go_simp; try (with_reducible rfl)

            refine wpAnyH_take (i := 2) (v := ?_) rfl (by kernel_rfl) (by kernel_rfl) (by kernel_rfl) (fun _ _ _ h => h) (Or.inl ⟨by rfl, ?_⟩) HS0 ?_
            rotate_left
            · intro W hW; (try dsimp only at hW); go_simp; try (with_reducible rfl)

            refine wpAnyH_take (i := 3) (v := ?_) rfl (by kernel_rfl) (by kernel_rfl) (by kernel_rfl) (fun _ _ _ h => h) (Or.inl ⟨by rfl, ?_⟩) HS0 ?_
            rotate_left
            · intro W hW; (try dsimp only at hW); go_simp; try (with_reducible rfl)

            clear HS0
            refine wpAnyH_ready (rs := [4, 10]) (by kernel_rfl) (by simp) ?_
            refine AllReadyH.cons rfl (fun K hK => ?_) ?_
            {
            go_simp
            (with_reducible refine (HF2.out Xx0).mono ?_)
            rintro e Xx1 ⟨v1, rfl, hvx1, hbx1⟩
            have HBx1 := Lib.hid (below_next (HBx0.out) hbx1)
            refine hK.out _ _ (HKS2.out _ HBx1.out) ?_
            clear hK K
            intro _

            refine wpAnyH_ready (rs := [5, 10]) (by kernel_rfl) (by simp) ?_
            refine AllReadyH.cons rfl (fun K hK => ?_) ?_
            {
            go_simp
            (with_reducible refine (HER2.out Xx1 _ (hvx1)).mono ?_)
            rintro e Xx2 ⟨v2, rfl, hvx2, hbx2⟩
            have HBx2 := Lib.hid (below_next (HBx1.out) hbx2)
            refine hK.out _ _ (HKS2.out _ HBx2.out) ?_
            clear hK K
            intro _

            refine wpAnyH_ready (rs := [6, 10]) (by kernel_rfl) (by simp) ?_
            refine AllReadyH.cons rfl (fun K hK => ?_) ?_
            {
            go_simp
            (with_reducible refine (HRB.out Xx2 _ (below_next HB5.out (HBx2.out)) (hvx2)).mono ?_)
            rintro e Xx3 ⟨rfl, hbx3⟩
            have HBx3 := Lib.hid (below_next (HBx2.out) hbx3)
            refine hK.out _ _ (HKS2.out _ HBx3.out) ?_
            clear hK K
            intro _

            have HS0 := HKS2.out _ (HBx3.out)
            refine wpAnyH_take (i := 7) (v := ?_) rfl (by kernel_rfl) (by kernel_rfl) (by kernel_rfl) (fun _ _ _ h => h) (Or.inl ⟨by rfl, ?_⟩) HS0 ?_
            rotate_left
            · intro W hW; (try dsimp only at hW); go_simp; try (with_reducible rfl)

            clear HS0
            have HS0 := HKS2.out _ (HBx3.out)
            refine wpAnyH_take (i := 8) (v := ?_) rfl (by kernel_rfl) (by kernel_rfl) (by kernel_rfl) (fun _ _ _ h => h) (Or.inl ⟨by rfl, ?_⟩) HS0 ?_
            rotate_left
            · intro W hW; (try dsimp only at hW); go_simp; try (with_reducible rfl)

            clear HS0
            have HS0 := HKS2.out _ (HBx3.out)
            refine wpAnyH_take (i := 9) (v := ?_) rfl (by kernel_rfl) (by kernel_rfl) (by kernel_rfl) (fun _ _ _ h => h) (Or.inl ⟨by rfl, ?_⟩) HS0 ?_
            rotate_left
            · intro W hW; (try dsimp only at hW); go_simp; try (with_reducible rfl)

            clear HS0
            refine run_one (i := 10) (by kernel_rfl) rfl rfl ?_
            intro K hK
            obtain ⟨Xx4, hXx4⟩ : ∃ X, X = Xx3.alloc (.cells #[.string ⟨#[]⟩, .string ⟨#[]⟩] 23) := ⟨_, rfl⟩
            have hbx4 : Below Xx3.heap.size Xx3 Xx4 := by rw [hXx4]; exact (Below.refl _ _).alloc (Nat.le_refl _) _
            have hxx4 : TxEmp Xx4 Xx3.heap.size := by rw [hXx4]; exact alloc_at _ _ _ rfl
            have HBx4 := Lib.hid (below_next (HBx3.out) hbx4)
            have hwx4 : wd.heap.size ≤ Xx3.heap.size := (HBx3.out).size
            go_simp
            rw [← hXx4]
            clear hXx4
            refine hK.out _ _ (HKS2.out _ HBx4.out) ?_
            clear hK K
            intro _

            obtain ⟨k0, k1, z0, z1, hlt⟩ := TxEmp.facts (hxx4)
            obtain ⟨Xx5, hXx5⟩ : ∃ X, X = (Xx4.setCell ⟨Xx3.heap.size, 0, none⟩ (.string T3)).setCell ⟨Xx3.heap.size, 1, none⟩ (.string T4) := ⟨_, rfl⟩
            have HVx5 := Lib.hid (show Txt2 Xx5 Xx3.heap.size T3 T4 by rw [hXx5]; exact txt2_set (hxx4))
            have HBx5 := Lib.hid (show Below wd.heap.size wd Xx5 by rw [hXx5]; exact ((HBx4.out).setCell (p := ⟨Xx3.heap.size, 0, none⟩) hwx4 _).setCell (p := ⟨Xx3.heap.size, 1, none⟩) hwx4 _)
            refine run_one (i := 11) (by kernel_rfl) rfl rfl ?_
            intro K hK
            go_simp
            rw [← hXx5]
            refine hK.out _ _ (HKS2.out _ HBx5.out) ?_
            clear hK K k0 k1 z0 z1 hlt hXx5
            intro _

            have HS0 := HKS2.out _ HBx5.out
            refine wpAnyH_take (i := 12) (v := ?_) rfl (by kernel_rfl) (by kernel_rfl) (by kernel_rfl) (fun _ _ _ h => h) (Or.inl ⟨by rfl, ?_⟩) HS0 ?_
            rotate_left
            · intro W hW; (try dsimp only at hW); go_simp; try (with_reducible rfl)

            clear HS0
            refine wpAnyH_done (by kernel_rfl) ?_ _
            refine NoPanic.normal ?_
            go_wp2_with fail
            go_meet
            exact ⟨Xx3.heap.size, rfl, rfl, hwx4, HVx5.out, HBx5.out⟩
            }
            refine AllReadyH.cons rfl (fun K hK => ?_) ?_
            {
            obtain ⟨Xx6, hXx6⟩ : ∃ X, X = Xx2.alloc (.cells #[.string ⟨#[]⟩, .string ⟨#[]⟩] 23) := ⟨_, rfl⟩
            have hbx6 : Below Xx2.heap.size Xx2 Xx6 := by rw [hXx6]; exact (Below.refl _ _).alloc (Nat.le_refl _) _
            have hxx6 : TxEmp Xx6 Xx2.heap.size := by rw [hXx6]; exact alloc_at _ _ _ rfl
            have HBx6 := Lib.hid (below_next (HBx2.out) hbx6)
            have hwx6 : wd.heap.size ≤ Xx2.heap.size := (HBx2.out).size
            go_simp
            rw [← hXx6]
            clear hXx6
            refine hK.out _ _ (HKS2.out _ HBx6.out) ?_
            clear hK K
            intro _

            refine run_one (i := 6) (by kernel_rfl) rfl rfl ?_
            intro K hK
            go_simp
            (with_reducible refine (HRB.out Xx6 _ (below_next HB5.out (HBx6.out)) ((hvx2).on hbx6)).mono ?_)
            rintro e Xx7 ⟨rfl, hbx7⟩
            have HBx7 := Lib.hid (below_next (HBx6.out) hbx7)
            refine hK.out _ _ (HKS2.out _ HBx7.out) ?_
            clear hK K
            intro _

            have HS0 := HKS2.out _ (HBx7.out)
            refine wpAnyH_take (i := 7) (v := ?_) rfl (by kernel_rfl) (by kernel_rfl) (by kernel_rfl) (fun _ _ _ h => h) (Or.inl ⟨by rfl, ?_⟩) HS0 ?_
            rotate_left
            · intro W hW; (try dsimp only at hW); go_simp; try (with_reducible rfl)

            clear HS0
            have HS0 := HKS2.out _ (HBx7.out)
            refine wpAnyH_take (i := 8) (v := ?_) rfl (by kernel_rfl) (by kernel_rfl) (by kernel_rfl) (fun _ _ _ h => h) (Or.inl ⟨by rfl, ?_⟩) HS0 ?_
            rotate_left
            · intro W hW; (try dsimp only at hW); go_simp; try (with_reducible rfl)

            clear HS0
            have HS0 := HKS2.out _ (HBx7.out)
            refine wpAnyH_take (i := 9) (v := ?_) rfl (by kernel_rfl) (by kernel_rfl) (by kernel_rfl) (fun _ _ _ h => h) (Or.inl ⟨by rfl, ?_⟩) HS0 ?_
            rotate_left
            · intro W hW; (try dsimp only at hW); go_simp; try (with_reducible rfl)

            clear HS0
            obtain ⟨k0, k1, z0, z1, hlt⟩ := TxEmp.facts ((TxEmp.on hxx6 hbx7))
            obtain ⟨Xx8, hXx8⟩ : ∃ X, X = (Xx7.setCell ⟨Xx2.heap.size, 0, none⟩ (.string T3)).setCell ⟨Xx2.heap.size, 1, none⟩ (.string T4) := ⟨_, rfl⟩
            have HVx8 := Lib.hid (show Txt2 Xx8 Xx2.heap.size T3 T4 by rw [hXx8]; exact txt2_set ((TxEmp.on hxx6 hbx7)))
            have HBx8 := Lib.hid (show Below wd.heap.size wd Xx8 by rw [hXx8]; exact ((HBx7.out).setCell (p := ⟨Xx2.heap.size, 0, none⟩) hwx6 _).setCell (p := ⟨Xx2.heap.size, 1, none⟩) hwx6 _)
            refine run_one (i := 11) (by kernel_rfl) rfl rfl ?_
            intro K hK
            go_simp
            rw [← hXx8]
            refine hK.out _ _ (HKS2.out _ HBx8.out) ?_
            clear hK K k0 k1 z0 z1 hlt hXx8
            intro _

            have HS0 := HKS2.out _ HBx8.out
            refine wpAnyH_take (i := 12) (v := ?_) rfl (by kernel_rfl) (by kernel_rfl) (by kernel_rfl) (fun _ _ _ h => h) (Or.inl ⟨by rfl, ?_⟩) HS0 ?_
            rotate_left
            · intro W hW; (try dsimp only at hW); go_simp; try (with_reducible rfl)

            clear HS0
            refine wpAnyH_done (by kernel_rfl) ?_ _
            refine NoPanic.normal ?_
            go_wp2_with fail
            go_meet
            exact ⟨Xx2.heap.size, rfl, rfl, hwx6, HVx8.out, HBx8.out⟩
            }
            exact AllReadyH.nil
            }
            refine AllReadyH.cons rfl (fun K hK => ?_) ?_
            {
            obtain ⟨Xx9, hXx9⟩ : ∃ X, X = Xx1.alloc (.cells #[.string ⟨#[]⟩, .string ⟨#[]⟩] 23) := ⟨_, rfl⟩
            have hbx9 : Below Xx1.heap.size Xx1 Xx9 := by rw [hXx9]; exact (Below.refl _ _).alloc (Nat.le_refl _) _
            have hxx9 : TxEmp Xx9 Xx1.heap.size := by rw [hXx9]; exact alloc_at _ _ _ rfl
            have HBx9 := Lib.hid (below_next (HBx1.out) hbx9)
            have hwx9 : wd.heap.size ≤ Xx1.heap.size := (HBx1.out).size
            go_simp
            rw [← hXx9]
            clear hXx9
            refine hK.out _ _ (HKS2.out _ HBx9.out) ?_
            clear hK K
            intro _

            refine run_one (i := 5) (by kernel_rfl) rfl rfl ?_
            intro K hK
            go_simp
            (with_reducible refine (HER2.out Xx9 _ ((hvx1).on hbx9)).mono ?_)
            rintro e Xx10 ⟨v10, rfl, hvx10, hbx10⟩
            have HBx10 := Lib.hid (below_next (HBx9.out) hbx10)
            refine hK.out _ _ (HKS2.out _ HBx10.out) ?_
            clear hK K
            intro _

            refine run_one (i := 6) (by kernel_rfl) rfl rfl ?_
            intro K hK
            go_simp
            (with_reducible refine (HRB.out Xx10 _ (below_next HB5.out (HBx10.out)) (hvx10)).mono ?_)
            rintro e Xx11 ⟨rfl, hbx11⟩
            have HBx11 := Lib.hid (below_next (HBx10.out) hbx11)
            refine hK.out _ _ (HKS2.out _ HBx11.out) ?_
            clear hK K
            intro _

            have HS0 := HKS2.out _ (HBx11.out)
            refine wpAnyH_take (i := 7) (v := ?_) rfl (by kernel_rfl) (by kernel_rfl) (by kernel_rfl) (fun _ _ _ h => h) (Or.inl ⟨by rfl, ?_⟩) HS0 ?_
            rotate_left
            · intro W hW; (try dsimp only at hW); go_simp; try (with_reducible rfl)

            clear HS0
            have HS0 := HKS2.out _ (HBx11.out)
            refine wpAnyH_take (i := 8) (v := ?_) rfl (by kernel_rfl) (by kernel_rfl) (by kernel_rfl) (fun _ _ _ h => h) (Or.inl ⟨by rfl, ?_⟩) HS0 ?_
            rotate_left
            · intro W hW; (try dsimp only at hW); go_simp; try (with_reducible rfl)

            clear HS0
            have HS0 := HKS2.out _ (HBx11.out)
            refine wpAnyH_take (i := 9) (v := ?_) rfl (by kernel_rfl) (by kernel_rfl) (by kernel_rfl) (fun _ _ _ h => h) (Or.inl ⟨by rfl, ?_⟩) HS0 ?_
            rotate_left
            · intro W hW; (try dsimp only at hW); go_simp; try (with_reducible rfl)

            clear HS0
            obtain ⟨k0, k1, z0, z1, hlt⟩ := TxEmp.facts ((TxEmp.on (TxEmp.on hxx9 hbx10) hbx11))
            obtain ⟨Xx12, hXx12⟩ : ∃ X, X = (Xx11.setCell ⟨Xx1.heap.size, 0, none⟩ (.string T3)).setCell ⟨Xx1.heap.size, 1, none⟩ (.string T4) := ⟨_, rfl⟩
            have HVx12 := Lib.hid (show Txt2 Xx12 Xx1.heap.size T3 T4 by rw [hXx12]; exact txt2_set ((TxEmp.on (TxEmp.on hxx9 hbx10) hbx11)))
            have HBx12 := Lib.hid (show Below wd.heap.size wd Xx12 by rw [hXx12]; exact ((HBx11.out).setCell (p := ⟨Xx1.heap.size, 0, none⟩) hwx9 _).setCell (p := ⟨Xx1.heap.size, 1, none⟩) hwx9 _)
            refine run_one (i := 11) (by kernel_rfl) rfl rfl ?_
            intro K hK
            go_simp
            rw [← hXx12]
            refine hK.out _ _ (HKS2.out _ HBx12.out) ?_
            clear hK K k0 k1 z0 z1 hlt hXx12
            intro _

            have HS0 := HKS2.out _ HBx12.out
            refine wpAnyH_take (i := 12) (v := ?_) rfl (by kernel_rfl) (by kernel_rfl) (by kernel_rfl) (fun _ _ _ h => h) (Or.inl ⟨by rfl, ?_⟩) HS0 ?_
            rotate_left
            · intro W hW; (try dsimp only at hW); go_simp; try (with_reducible rfl)

            clear HS0
            refine wpAnyH_done (by kernel_rfl) ?_ _
            refine NoPanic.normal ?_
            go_wp2_with fail
            go_meet
            exact ⟨Xx1.heap.size, rfl, rfl, hwx9, HVx12.out, HBx12.out⟩
            }
            exact AllReadyH.nil
            }
            refine AllReadyH.cons rfl (fun K hK => ?_) ?_
            {
            obtain ⟨Xx13, hXx13⟩ : ∃ X, X = Xx0.alloc (.cells #[.string ⟨#[]⟩, .string ⟨#[]⟩] 23) := ⟨_, rfl⟩
            have hbx13 : Below Xx0.heap.size Xx0 Xx13 := by rw [hXx13]; exact (Below.refl _ _).alloc (Nat.le_refl _) _
            have hxx13 : TxEmp Xx13 Xx0.heap.size := by rw [hXx13]; exact alloc_at _ _ _ rfl
            have HBx13 := Lib.hid (below_next (HBx0.out) hbx13)
            have hwx13 : wd.heap.size ≤ Xx0.heap.size := (HBx0.out).size
            go_simp
            rw [← hXx13]
            clear hXx13
            refine hK.out _ _ (HKS2.out _ HBx13.out) ?_
            clear hK K
            intro _

            refine run_one (i := 4) (by kernel_rfl) rfl rfl ?_
            intro K hK
            go_simp
            (with_reducible refine (HF2.out Xx13).mono ?_)
            rintro e Xx14 ⟨v14, rfl, hvx14, hbx14⟩
            have HBx14 := Lib.hid (below_next (HBx13.out) hbx14)
            refine hK.out _ _ (HKS2.out _ HBx14.out) ?_
            clear hK K
            intro _

            refine run_one (i := 5) (by kernel_rfl) rfl rfl ?_
            intro K hK
            go_simp
            (with_reducible refine (HER2.out Xx14 _ (hvx14)).mono ?_)
            rintro e Xx15 ⟨v15, rfl, hvx15, hbx15⟩
            have HBx15 := Lib.hid (below_next (HBx14.out) hbx15)
            refine hK.out _ _ (HKS2.out _ HBx15.out) ?_
            clear hK K
            intro _

            refine run_one (i := 6) (by kernel_rfl) rfl rfl ?_
            intro K hK
            go_simp
            (with_reducible refine (HRB.out Xx15 _ (below_next HB5.out (HBx15.out)) (hvx15)).mono ?_)
            rintro e Xx16 ⟨rfl, hbx16⟩
            have HBx16 := Lib.hid (below_next (HBx15.out) hbx16)
            refine hK.out _ _ (HKS2.out _ HBx16.out) ?_
            clear hK K
            intro _

            have HS0 := HKS2.out _ (HBx16.out)
            refine wpAnyH_take (i := 7) (v := ?_) rfl (by kernel_rfl) (by kernel_rfl) (by kernel_rfl) (fun _ _ _ h => h) (Or.inl ⟨by rfl, ?_⟩) HS0 ?_
            rotate_left
            · intro W hW; (try dsimp only at hW); go_simp; try (with_reducible rfl)

            clear HS0
            have HS0 := HKS2.out _ (HBx16.out)
            refine wpAnyH_take (i := 8) (v := ?_) rfl (by kernel_rfl) (by kernel_rfl) (by kernel_rfl) (fun _ _ _ h => h) (Or.inl ⟨by rfl, ?_⟩) HS0 ?_
            rotate_left
            · intro W hW; (try dsimp only at hW); go_simp; try (with_reducible rfl)

            clear HS0
            have HS0 := HKS2.out _ (HBx16.out)
            refine wpAnyH_take (i := 9) (v := ?_) rfl (by kernel_rfl) (by kernel_rfl) (by kernel_rfl) (fun _ _ _ h => h) (Or.inl ⟨by rfl, ?_⟩) HS0 ?_
            rotate_left
            · intro W hW; (try dsimp only at hW); go_simp; try (with_reducible rfl)

            clear HS0
            obtain ⟨k0, k1, z0, z1, hlt⟩ := TxEmp.facts ((TxEmp.on (TxEmp.on (TxEmp.on hxx13 hbx14) hbx15) hbx16))
            obtain ⟨Xx17, hXx17⟩ : ∃ X, X = (Xx16.setCell ⟨Xx0.heap.size, 0, none⟩ (.string T3)).setCell ⟨Xx0.heap.size, 1, none⟩ (.string T4) := ⟨_, rfl⟩
            have HVx17 := Lib.hid (show Txt2 Xx17 Xx0.heap.size T3 T4 by rw [hXx17]; exact txt2_set ((TxEmp.on (TxEmp.on (TxEmp.on hxx13 hbx14) hbx15) hbx16)))
            have HBx17 := Lib.hid (show Below wd.heap.size wd Xx17 by rw [hXx17]; exact ((HBx16.out).setCell (p := ⟨Xx0.heap.size, 0, none⟩) hwx13 _).setCell (p := ⟨Xx0.heap.size, 1, none⟩) hwx13 _)
            refine run_one (i := 11) (by kernel_rfl) rfl rfl ?_
            intro K hK
            go_simp
            rw [← hXx17]
            refine hK.out _ _ (HKS2.out _ HBx17.out) ?_
            clear hK K k0 k1 z0 z1 hlt hXx17
            intro _

            have HS0 := HKS2.out _ HBx17.out
            refine wpAnyH_take (i := 12) (v := ?_) rfl (by kernel_rfl) (by kernel_rfl) (by kernel_rfl) (fun _ _ _ h => h) (Or.inl ⟨by rfl, ?_⟩) HS0 ?_
            rotate_left
            · intro W hW; (try dsimp only at hW); go_simp; try (with_reducible rfl)

            clear HS0
            refine wpAnyH_done (by kernel_rfl) ?_ _
            refine NoPanic.normal ?_
            go_wp2_with fail
            go_meet
            exact ⟨Xx0.heap.size, rfl, rfl, hwx13, HVx17.out, HBx17.out⟩
            }
            exact AllReadyH.nil
          case rest =>
            obtain ⟨Bg, rfl, rfl, hBg, htg, hbc⟩ := hcut
            have HTG := Lib.hid htg
            have HTFg := Lib.hid (HTF.out.on hbc)
            have HB8 := Lib.hid (below_next HB5.out hbc)
            have hb08 := below_next HB02.out hbc
            have hh1 := HT1.out.on hb08
            have hh2 := HT2.out.on hb08
            have HBN := Lib.hid (show w.heap.size + 2 < Bf ∧ w.heap.size + 2 < Bg by have := heap_lt HT2.out; have := HB01.out.size; have := HBF.out; have := HB02.out.size; omega)
            clear hBg htg hbc hb08
            by_cases hkb0 : kb = 0
            · have HEV := Lib.hid (HC5.out hkb0)
              have t5 : (kb != 0) = false := by rw [hkb0]; rfl
              have HKF := Lib.hid (show ∀ X, Txt2 X Bf T1 T2 → Txt2 X Bg T3 T4 → (fun X => X.cell? ⟨Bf, 0, none⟩ = some (.string T1) ∧ X.cell? ⟨Bf, 1, none⟩ = some (.string T2) ∧ X.cell? ⟨Bg, 0, none⟩ = some (.string T3) ∧ X.cell? ⟨Bg, 1, none⟩ = some (.string T4)) X from fun X h2 h3 => by
                obtain ⟨s0, s1, -, -, -⟩ := h2.facts
                obtain ⟨o0, o1, -, -, -⟩ := h3.facts
                exact ⟨s0, s1, o0, o1⟩)
              have HH1 := Lib.hid hh1
              have HH2 := Lib.hid hh2
              obtain ⟨we, rfl⟩ : ∃ W : World, W = wc := ⟨_, rfl⟩
              have hbd : Below we.heap.size we we.drew := (Below.refl _ we).drew
              obtain ⟨X0, hX0⟩ : ∃ X, X = we.drew := ⟨_, rfl⟩
              have HF0 := Lib.hid (show Txt2 X0 Bf T1 T2 by rw [hX0]; exact HTFg.out.on hbd)
              have HG0 := Lib.hid (show Txt2 X0 Bg T3 T4 by rw [hX0]; exact HTG.out.on hbd)
              have HX1 := Lib.hid (show Txt2 X0 (w.heap.size + 1) ⟨#[]⟩ ⟨#[]⟩ by rw [hX0]; exact HH1.out.on hbd)
              have HX2 := Lib.hid (show Txt2 X0 (w.heap.size + 2) ⟨#[]⟩ ⟨#[]⟩ by rw [hX0]; exact HH2.out.on hbd)
              have HBX := Lib.hid (show Below w.heap.size w X0 by rw [hX0]; exact below_next HB8.out hbd)
              have HXE := Lib.hid hX0
              clear hkb0 hh1 hh2 hbd hX0
              go_wp2_with fail
              refine wp_region_noPanic ?_
              refine wp_region_held_drew (S := (fun X => X.cell? ⟨Bf, 0, none⟩ = some (.string T1) ∧ X.cell? ⟨Bf, 1, none⟩ = some (.string T2) ∧ X.cell? ⟨Bg, 0, none⟩ = some (.string T3) ∧ X.cell? ⟨Bg, 1, none⟩ = some (.string T4))) (by kernel_rfl) (by rw [← HXE.out]; exact HKF.out X0 HF0.out HG0.out) (fun HS0 => ?_)
              rw [← HXE.out] at HS0 ⊢
              refine wpAnyH_take (i := 0) (v := ?_) rfl (by kernel_rfl) (by kernel_rfl) (by kernel_rfl) (fun _ _ _ h => h) (Or.inl ⟨by rfl, ?_⟩) HS0 ?_
              rotate_left
              · intro W hW; (try dsimp only at hW); go_simp; try (with_reducible rfl)
              (try simp only [List.getElem_toArray, List.getElem_cons_zero, Act.put, List.setIfInBounds_toArray, List.set_cons_zero, List.set_cons_succ])
              refine wpAnyH_take (i := 1) (v := ?_) rfl (by kernel_rfl) (by kernel_rfl) (by kernel_rfl) (fun _ _ _ h => h) (Or.inl ⟨by rfl, ?_⟩) HS0 ?_
              rotate_left
              · intro W hW; (try dsimp only at hW); go_simp; try (with_reducible rfl)
              (try simp only [List.getElem_toArray, List.getElem_cons_succ, List.getElem_cons_zero, Act.put, List.setIfInBounds_toArray, List.set_cons_zero, List.set_cons_succ])
              obtain ⟨s0, s1, s2, s3, s4⟩ := HX1.out.facts
              obtain ⟨X1, hY⟩ : ∃ Y, Y = (X0.setCell ⟨w.heap.size + 1, 0, none⟩ (.string T1)).setCell ⟨w.heap.size + 1, 1, none⟩ (.string T2) := ⟨_, rfl⟩
              have HF1' := Lib.hid (show Txt2 X1 Bf T1 T2 by rw [hY]; exact (txt2_far (by have := HBN.out; omega)).trans HF0.out)
              have HG1' := Lib.hid (show Txt2 X1 Bg T3 T4 by rw [hY]; exact (txt2_far (by have := HBN.out; omega)).trans HG0.out)
              have HY1 := Lib.hid (show Txt2 X1 (w.heap.size + 1) T1 T2 by rw [hY]; exact txt2_set HX1.out)
              have HY2 := Lib.hid (show Txt2 X1 (w.heap.size + 2) ⟨#[]⟩ ⟨#[]⟩ by rw [hY]; exact (txt2_far (by omega)).trans HX2.out)
              have HBY := Lib.hid (show Below w.heap.size w X1 by rw [hY]; exact txt2_below HBX.out (by omega) _ _)
              clear HS0
              refine run_one (i := 2) (by kernel_rfl) rfl rfl ?_
              intro K hK
              go_simp
              rw [← hY]
              refine hK.out _ _ (HKF.out X1 HF1'.out HG1'.out) ?_
              clear hK K hY s0 s1 s2 s3 s4
              intro HS0
              obtain ⟨s0, s1, s2, s3, s4⟩ := HY2.out.facts
              obtain ⟨X2, hY⟩ : ∃ Y, Y = (X1.setCell ⟨w.heap.size + 2, 0, none⟩ (.string T3)).setCell ⟨w.heap.size + 2, 1, none⟩ (.string T4) := ⟨_, rfl⟩
              have HF2' := Lib.hid (show Txt2 X2 Bf T1 T2 by rw [hY]; exact (txt2_far (by have := HBN.out; omega)).trans HF1'.out)
              have HG2' := Lib.hid (show Txt2 X2 Bg T3 T4 by rw [hY]; exact (txt2_far (by have := HBN.out; omega)).trans HG1'.out)
              have HZ1 := Lib.hid (show Txt2 X2 (w.heap.size + 1) T1 T2 by rw [hY]; exact (txt2_far (by omega)).trans HY1.out)
              have HZ2 := Lib.hid (show Txt2 X2 (w.heap.size + 2) T3 T4 by rw [hY]; exact txt2_set HY2.out)
              have HBZ := Lib.hid (show Below w.heap.size w X2 by rw [hY]; exact txt2_below HBY.out (by omega) _ _)
              clear HS0
              refine run_one (i := 3) (by kernel_rfl) rfl rfl ?_
              intro K hK
              go_simp
              rw [← hY]
              refine hK.out _ _ (HKF.out X2 HF2'.out HG2'.out) ?_
              clear hK K hY s0 s1 s2 s3 s4
              intro HS0
              refine wpAnyH_take (i := 4) (v := ?_) rfl (by kernel_rfl) (by kernel_rfl) (by kernel_rfl) (fun _ _ _ h => h) (Or.inl ⟨by rfl, ?_⟩) HS0 ?_
              rotate_left
              · intro W hW; (try dsimp only at hW); go_simp; try (with_reducible rfl)
              (try simp only [List.getElem_toArray, List.getElem_cons_succ, List.getElem_cons_zero, Act.put, List.setIfInBounds_toArray, List.set_cons_zero, List.set_cons_succ])
              refine wpAnyH_done (by kernel_rfl) ?_ _
              refine NoPanic.normal ?_
              obtain ⟨s0, s1, s2, s3, s4⟩ := HZ1.out.facts
              obtain ⟨o0, o1, o2, o3, o4⟩ := HZ2.out.facts
              clear HS0
              go_wp2
              refine bodyPost_ret (v := .tuple #[.agg #[.string T1, .string T2], .agg #[.string T3, .string T4], .int .i64 0]) (by simp [results, Tryz.results8, go_sem, s0, s1, o0, o1]) rfl ⟨by rw [HEV.out], HBZ.out⟩
            · have t5 : (kb != 0) = true := by rw [bne_iff_ne]; exact hkb0
              have HEV := Lib.hid (HC4.out hkb0)
              clear hkb0
              obtain ⟨s0, s1, s2, s3, s4⟩ := (hh1).facts
              obtain ⟨o0, o1, o2, o3, o4⟩ := (hh2).facts
              have HFN := Lib.hid (fun a b c d => txt2_below (B := w.heap.size + 2) (txt2_below (B := w.heap.size + 1) HB8.out (by omega) a b) (by omega) c d)
              go_wp2
              refine bodyPost_ret (v := .tuple #[.agg #[.string ⟨#[]⟩, .string ⟨#[]⟩], .agg #[.string ⟨#[]⟩, .string ⟨#[]⟩], .int .i64 kb]) (by simp [results, Tryz.results8, go_sem, s0, s1, o0, o1]) rfl ⟨by rw [HEV.out]; rfl, HFN.out _ _ _ _⟩
        · have t4 : (ka != 0) = true := by rw [bne_iff_ne]; exact hka0
          have HEV := Lib.hid (HC3.out hka0)
          have hh1 := HT1.out.on HB02.out
          have hh2 := HT2.out.on HB02.out
          clear hka0
          obtain ⟨s0, s1, s2, s3, s4⟩ := (hh1).facts
          obtain ⟨o0, o1, o2, o3, o4⟩ := (hh2).facts
          have HFN := Lib.hid (fun a b c d => txt2_below (B := w.heap.size + 2) (txt2_below (B := w.heap.size + 1) HB5.out (by omega) a b) (by omega) c d)
          go_wp2
          refine bodyPost_ret (v := .tuple #[.agg #[.string ⟨#[]⟩, .string ⟨#[]⟩], .agg #[.string ⟨#[]⟩, .string ⟨#[]⟩], .int .i64 ka]) (by simp [results, Tryz.results8, go_sem, s0, s1, o0, o1]) rfl ⟨by rw [HEV.out]; rfl, HFN.out _ _ _ _⟩
  · have HEV := Lib.hid (HC1.out hz)
    have t1 : (C != 0) = true := by rw [bne_iff_ne]; exact hz
    clear hz hok hcr
    go_enter Tryz.func8, Tryz.ntmps8
    go_upto_region 1 with fail
    rw [← hW0]
    clear hW0
    go_wp2_with fail
    (with_reducible refine (HCT.out _).mono ?_)
    clear p0 p1 p2 p3 p4 p5 p6 p7
    rintro e w1 ⟨rfl, hb1⟩
    have hh1 := HT1.out.on hb1
    have hh2 := HT2.out.on hb1
    have HB := Lib.hid (below_next HST0.out.below hb1)
    clear hb1
    obtain ⟨s0, s1, s2, s3, s4⟩ := (hh1).facts
    obtain ⟨o0, o1, o2, o3, o4⟩ := (hh2).facts
    have HFN := Lib.hid (fun a b c d => txt2_below (B := w.heap.size + 2) (txt2_below (B := w.heap.size + 1) HB.out (by omega) a b) (by omega) c d)
    go_wp2
    refine bodyPost_ret (v := .tuple #[.agg #[.string ⟨#[]⟩, .string ⟨#[]⟩], .agg #[.string ⟨#[]⟩, .string ⟨#[]⟩], .int .i64 C]) (by simp [results, Tryz.results8, go_sem, s0, s1, o0, o1]) rfl ⟨by rw [HEV.out]; rfl, HFN.out _ _ _ _⟩
end Go.Proofs.YtlkjgjojahjapaaGreatDoor
