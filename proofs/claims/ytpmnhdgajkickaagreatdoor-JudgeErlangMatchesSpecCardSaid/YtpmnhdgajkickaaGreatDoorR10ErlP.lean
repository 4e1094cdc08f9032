/- Package dynamometerref10: Erlang's formulas, exported. Printed by gen_r10erlp.py. -/
import Derived.Test.YtpmnhdgajkickaaGreatDoorR10Wait
import Derived.Test.YtpmnhdgajkickaaGreatDoorB25
import Derived.Test.YtpmnhdgajkickaaGreatDoorB13
namespace Go.Proofs.YtpmnhdgajkickaaGreatDoor
open Go Go.RowKit Go.Proofs

theorem er_szW {a : Rat} (h0 : frS a = false) (h1 : 0 < frN a) (h2 : frN a ≤ 1000000) (h3 : a.den ≤ 1000000) {c : Nat} (hc : c ≤ 50) (hac : a < ((c : Int) : Rat)) : Sz 100000 (erW a c) := by
  have hb : Sz 101 (erB a c) := (er_szR h0 h1 h2 h3 (Nat.le_refl 101) c hc).2.2
  have hsa : Sz 2 a := ⟨T4_small (by omega) (by omega), T4_small (by omega) (by omega)⟩
  have hsc : Sz 2 ((c : Int) : Rat) := sz_int2 (T4_small (by omega) (by omega)) (by omega)
  have hso : Sz 2 ((1 : Int) : Rat) := sz_int2 (T4_small (by decide) (by omega)) (by omega)
  have h := sz_over (sz_mul hsc hb) (sz_sub hsc (sz_mul hsa (sz_sub hso hb))) (erW_den (pos_of h0 h1) hac)
  exact h.mono (by omega)
set_option maxHeartbeats 8000000 in
set_option maxRecDepth 100000 in
theorem rPositive_any (Sa Sb : ByteArray) (a b : List UInt8) (w : World) (hSa : Sa.data.toList = a) (hSb : Sb.data.toList = b) (ha : Sa.size ≤ 9223372036854775800) (hb : Sb.size ≤ 9223372036854775800) :
    Calls Tryz.prog 61 #[.agg #[.string Sa, .string Sb]] w fun e w' => e = .returned (.int .i64 (shC .positive a b)) ∧ Below w.heap.size w w' := by
  have HS := Lib.hid (fun W => rShortR_any Sa Sb a b 0 (-1) true W hSa hSb ha hb (by omega) (by omega) (by omega) (by omega))
  rw [show shR 0 (-1) true a b = shC .positive a b from shR_eq .positive a b] at HS
  obtain ⟨cc, hcc⟩ : ∃ cc, cc = shC .positive a b := ⟨_, rfl⟩
  rw [← hcc] at HS ⊢
  obtain ⟨W0, hW0⟩ : ∃ W0, W0 = w.alloc (.cells #[.string Sa, .string Sb] 23) := ⟨_, rfl⟩
  have HST0 := Lib.hid (show St w W0 [(w.heap.size, .cells #[.string Sa, .string Sb] 23 (0, 0))] by rw [hW0]; exact (St.start w).alloc _ _ rfl)
  have p0 := HST0.out.cell 0 0 rfl rfl
  have p1 := HST0.out.cell 0 1 rfl rfl
  clear hcc hSa hSb ha hb
  go_enter Tryz.func61, Tryz.ntmps61
  go_wp2_with fail
  rw [← hW0]
  clear hW0
  (with_reducible refine (HS.out _).mono ?_)
  rintro e w1 ⟨rfl, hb1⟩
  go_wp2
  go_ret
  exact ⟨by rfl, below_next HST0.out.below hb1⟩
set_option maxHeartbeats 8000000 in
set_option maxRecDepth 100000 in
theorem r10BlockedP_any (Sa Sb : ByteArray) (a b : List UInt8) (n : Int) (w : World) (hSa : Sa.data.toList = a) (hSb : Sb.data.toList = b) (ha : Sa.size ≤ 9223372036854775800) (hb : Sb.size ≤ 9223372036854775800) (htab : Tab w.heap.size w) :
    Calls Tryz.prog 19 #[.int .i64 n, .agg #[.string Sa, .string Sb]] w fun e w' => e = .returned (.tuple #[ratOf (blkT n a b), .int .i64 (blkE n a b)]) ∧ Below w.heap.size w w' := by
  obtain ⟨W0, hW0⟩ : ∃ W0, W0 = (w.alloc (.cells #[.string Sa, .string Sb] 23)).alloc (.cells #[.string ⟨#[]⟩, .string ⟨#[]⟩] 23) := ⟨_, rfl⟩
  have HST0 := Lib.hid (show St w W0 [(w.heap.size, .cells #[.string Sa, .string Sb] 23 (0, 0)), (w.heap.size + 1, .cells #[.string ⟨#[]⟩, .string ⟨#[]⟩] 23 (0, 0))] by rw [hW0]; exact ((St.start w).alloc _ _ rfl).alloc _ _ (by simp))
  have HFIN := Lib.hid (show ∀ W, Below W0.heap.size W0 W → ∀ x y, Below w.heap.size w ((W.setCell ⟨w.heap.size + 1, 0, none⟩ x).setCell ⟨w.heap.size + 1, 1, none⟩ y) from fun W hb x y => ((below_next HST0.out.below hb).setCell (p := ⟨w.heap.size + 1, 0, none⟩) (by simp) x).setCell (p := ⟨w.heap.size + 1, 1, none⟩) (by simp) y)
  have HK := Lib.hid (show ∀ X, Below W0.heap.size W0 X → X.cell? ⟨w.heap.size, 0, none⟩ = some (.string Sa) ∧ X.cell? ⟨w.heap.size, 1, none⟩ = some (.string Sb) ∧ X.cell? ⟨w.heap.size + 1, 0, none⟩ = some (.string ⟨#[]⟩) ∧ X.cell? ⟨w.heap.size + 1, 1, none⟩ = some (.string ⟨#[]⟩) ∧ X.frozen? ⟨w.heap.size + 1, 0, none⟩ = false ∧ X.frozen? ⟨w.heap.size + 1, 1, none⟩ = false ∧ w.heap.size + 1 < X.heap.size from fun X hX => ⟨(HST0.out.call hX).cell 0 0 rfl rfl, (HST0.out.call hX).cell 0 1 rfl rfl, (HST0.out.call hX).cell 1 0 rfl rfl, (HST0.out.call hX).cell 1 1 rfl rfl, (HST0.out.call hX).frozen 1 0 rfl, (HST0.out.call hX).frozen 1 1 rfl, (HST0.out.call hX).lt 1 rfl⟩)
  obtain ⟨p0, p1, k0, k1, z0, z1, hl0⟩ := HK.out W0 (Below.refl _ _)
  by_cases hn : n < 0 ∨ 50 < n
  · rw [(blk_bad (c := n) (a := a) (b := b) (by rw [eC_range hn]; decide)).1, (blk_bad (c := n) (a := a) (b := b) (by rw [eC_range hn]; decide)).2, eC_range hn, rat_none]
    clear hSa hSb
    by_cases h1 : n < 0
    · have t1 : decide (n < 0) = true := decide_eq_true h1
      clear hn
      go_enter Tryz.func19, Tryz.ntmps19
      go_wp2_with fail
      rw [← hW0]
      clear hW0
      go_wp2
      refine bodyPost_ret (v := .tuple #[.agg #[.string ⟨#[]⟩, .string ⟨#[]⟩], .int .i64 9]) (by simp [results, Tryz.results19, go_sem, k0, k1, hl0]) rfl ⟨rfl, by first | exact HFIN.out _ (Below.refl _ _) _ _ | exact HST0.out.below⟩
    · have t1 : decide (n < 0) = false := decide_eq_false h1
      have t2 : decide (50 < n) = true := decide_eq_true (by omega)
      clear hn
      go_enter Tryz.func19, Tryz.ntmps19
      go_wp2_with fail
      rw [← hW0]
      clear hW0
      go_wp2
      refine bodyPost_ret (v := .tuple #[.agg #[.string ⟨#[]⟩, .string ⟨#[]⟩], .int .i64 9]) (by simp [results, Tryz.results19, go_sem, k0, k1, hl0]) rfl ⟨rfl, by first | exact HFIN.out _ (Below.refl _ _) _ _ | exact HST0.out.below⟩
  · have t1 : decide (n < 0) = false := decide_eq_false (by omega)
    have t2 : decide (50 < n) = false := decide_eq_false (by omega)
    have HPO := Lib.hid (fun W => rPositive_any Sa Sb a b W hSa hSb ha hb)
    have hcn : eC n 0 a b = shC .positive a b := eC_ok hn
    by_cases hsh : shC .positive a b = 0
    · obtain ⟨hv, he⟩ := blk_ok (c := n) (a := a) (b := b) (by rw [hcn]; exact hsh)
      rw [hv, he]
      rw [hsh] at HPO
      have HFR := Lib.hid (fun W => rFrom_any Sa Sb a b W hSa hSb (shC_zero hsh).1)
      obtain ⟨s1, s2, s3, s4⟩ := posit_parts hsh
      obtain ⟨q, hq⟩ : ∃ q, q = ratX a b := ⟨_, rfl⟩
      rw [← hq] at HFR s1 s2 s3 s4 ⊢
      obtain ⟨N, rfl⟩ : ∃ N : Nat, n = N := ⟨n.toNat, by omega⟩
      rw [Int.toNat_natCast]
      have hN : N ≤ 50 := by omega
      have HBL := Lib.hid (fun v W (hu : FracR W v q) => r10Blocked_any N v q W hN hu s1 s2 s3 s4)
      have hz : Sz 100000 (erB q N) := (er_szR s1 s2 s3 s4 (show 101 ≤ 100000 by omega) N hN).2.2
      obtain ⟨r, hr⟩ : ∃ r, r = erB q N := ⟨_, rfl⟩
      rw [← hr] at HBL hz ⊢
      -- the ratio of r
      have hrt : ratOf (rtT r) = .agg #[.string ⟨(rtT r).1.toArray⟩, .string ⟨(rtT r).2.toArray⟩] := rfl
      obtain ⟨R1, hR1⟩ : ∃ R : ByteArray, R = ⟨(rtT r).1.toArray⟩ := ⟨_, rfl⟩
      obtain ⟨R2, hR2⟩ : ∃ R : ByteArray, R = ⟨(rtT r).2.toArray⟩ := ⟨_, rfl⟩
      rw [← hR1, ← hR2] at hrt
      obtain ⟨rc, hrc⟩ : ∃ rc, rc = rtC r := ⟨_, rfl⟩
      have HRA := Lib.hid (fun W v (hb : Below w.heap.size w W) (hv : FracR W v r) => rResult_any v r W hv hz ((htab.on hb).mono hb.size))
      rw [hrt] at HRA
      rw [← hrc] at HRA ⊢
      rw [hrt]
      clear hv he hcn hsh hSa hSb hq hr hrt hR1 hR2 hrc s1 s2 s3 s4 hn hz
      go_enter Tryz.func19, Tryz.ntmps19
      go_wp2_with fail
      rw [← hW0]
      clear hW0
      (with_reducible refine (HPO.out _).mono ?_)
      rintro e w1 ⟨rfl, hb1⟩
      have HB1 := Lib.hid hb1
      clear p0 p1 k0 k1 z0 z1 hl0
      obtain ⟨p0, p1, k0, k1, z0, z1, hl0⟩ := HK.out w1 hb1
      clear hb1
      go_wp2_with fail
      (with_reducible refine (HFR.out _).mono ?_)
      rintro e w2 ⟨v2, rfl, hv2, hb2⟩
      obtain ⟨b2, A2, c2, l2, D2, d2, m2, rfl⟩ := hv2.shape
      have HB2 := Lib.hid (below_next HB1.out hb2)
      clear p0 p1 k0 k1 z0 z1 hl0
      obtain ⟨p0, p1, k0, k1, z0, z1, hl0⟩ := HK.out w2 HB2.out
      go_wp2_with fail
      (with_reducible refine (HBL.out _ _ hv2).mono ?_)
      rintro e w3 ⟨v3, rfl, hv3, hb3⟩
      obtain ⟨b3, A3, c3, l3, D3, d3, m3, rfl⟩ := hv3.shape
      have HB3 := Lib.hid (below_next HB2.out hb3)
      clear hv2 hb2
      have HRA3 := Lib.hid (HRA.out w3 _ (below_next HST0.out.below HB3.out) hv3)
      clear p0 p1 k0 k1 z0 z1 hl0
      clear hb3 hv3
      go_wp2_with fail
      (with_reducible refine (HRA3.out).mono ?_)
      rintro e w4 ⟨rfl, hb4⟩
      have HB4 := Lib.hid (below_next HB3.out hb4)
      obtain ⟨p0, p1, k0, k1, z0, z1, hl0⟩ := HK.out w4 HB4.out
      go_wp2
      refine bodyPost_ret (v := .tuple #[.agg #[.string R1, .string R2], .int .i64 rc]) (by simp [results, Tryz.results19, go_sem, k0, k1, hl0]) rfl ⟨rfl, HFIN.out _ HB4.out _ _⟩
    · obtain ⟨cc, hcc⟩ : ∃ cc, cc = shC .positive a b := ⟨_, rfl⟩
      rw [(blk_bad (c := n) (a := a) (b := b) (by rw [hcn]; exact hsh)).1, (blk_bad (c := n) (a := a) (b := b) (by rw [hcn]; exact hsh)).2, hcn, rat_none, ← hcc]
      rw [← hcc] at HPO hsh
      have t3 : (cc != 0) = true := by rw [bne_iff_ne]; exact hsh
      clear hcn hsh hcc hSa hSb hn
      go_enter Tryz.func19, Tryz.ntmps19
      go_wp2_with fail
      rw [← hW0]
      clear hW0
      (with_reducible refine (HPO.out _).mono ?_)
      rintro e w1 ⟨rfl, hb1⟩
      have HB1 := Lib.hid hb1
      clear p0 p1 k0 k1 z0 z1 hl0
      obtain ⟨p0, p1, k0, k1, z0, z1, hl0⟩ := HK.out w1 hb1
      clear hb1
      go_wp2
      refine bodyPost_ret (v := .tuple #[.agg #[.string ⟨#[]⟩, .string ⟨#[]⟩], .int .i64 cc]) (by simp [results, Tryz.results19, go_sem, k0, k1, hl0]) rfl ⟨rfl, HFIN.out _ HB1.out _ _⟩
set_option maxHeartbeats 8000000 in
set_option maxRecDepth 100000 in
theorem r10WaitingP_any (Sa Sb : ByteArray) (a b : List UInt8) (n : Int) (w : World) (hSa : Sa.data.toList = a) (hSb : Sb.data.toList = b) (ha : Sa.size ≤ 9223372036854775800) (hb : Sb.size ≤ 9223372036854775800) (htab : Tab w.heap.size w) :
    Calls Tryz.prog 22 #[.int .i64 n, .agg #[.string Sa, .string Sb]] w fun e w' => e = .returned (.tuple #[ratOf (wtT n a b), .int .i64 (wtE n a b)]) ∧ Below w.heap.size w w' := by
  obtain ⟨W0, hW0⟩ : ∃ W0, W0 = (w.alloc (.cells #[.string Sa, .string Sb] 23)).alloc (.cells #[.string ⟨#[]⟩, .string ⟨#[]⟩] 23) := ⟨_, rfl⟩
  have HST0 := Lib.hid (show St w W0 [(w.heap.size, .cells #[.string Sa, .string Sb] 23 (0, 0)), (w.heap.size + 1, .cells #[.string ⟨#[]⟩, .string ⟨#[]⟩] 23 (0, 0))] by rw [hW0]; exact ((St.start w).alloc _ _ rfl).alloc _ _ (by simp))
  have HFIN := Lib.hid (show ∀ W, Below W0.heap.size W0 W → ∀ x y, Below w.heap.size w ((W.setCell ⟨w.heap.size + 1, 0, none⟩ x).setCell ⟨w.heap.size + 1, 1, none⟩ y) from fun W hb x y => ((below_next HST0.out.below hb).setCell (p := ⟨w.heap.size + 1, 0, none⟩) (by simp) x).setCell (p := ⟨w.heap.size + 1, 1, none⟩) (by simp) y)
  have HK := Lib.hid (show ∀ X, Below W0.heap.size W0 X → X.cell? ⟨w.heap.size, 0, none⟩ = some (.string Sa) ∧ X.cell? ⟨w.heap.size, 1, none⟩ = some (.string Sb) ∧ X.cell? ⟨w.heap.size + 1, 0, none⟩ = some (.string ⟨#[]⟩) ∧ X.cell? ⟨w.heap.size + 1, 1, none⟩ = some (.string ⟨#[]⟩) ∧ X.frozen? ⟨w.heap.size + 1, 0, none⟩ = false ∧ X.frozen? ⟨w.heap.size + 1, 1, none⟩ = false ∧ w.heap.size + 1 < X.heap.size from fun X hX => ⟨(HST0.out.call hX).cell 0 0 rfl rfl, (HST0.out.call hX).cell 0 1 rfl rfl, (HST0.out.call hX).cell 1 0 rfl rfl, (HST0.out.call hX).cell 1 1 rfl rfl, (HST0.out.call hX).frozen 1 0 rfl, (HST0.out.call hX).frozen 1 1 rfl, (HST0.out.call hX).lt 1 rfl⟩)
  obtain ⟨p0, p1, k0, k1, z0, z1, hl0⟩ := HK.out W0 (Below.refl _ _)
  by_cases hn : n < 1 ∨ 50 < n
  · rw [(wt_bad (c := n) (a := a) (b := b) (by rw [wtC_one (by rw [eC_range hn]; decide), eC_range hn]; decide)).1, (wt_bad (c := n) (a := a) (b := b) (by rw [wtC_one (by rw [eC_range hn]; decide), eC_range hn]; decide)).2, wtC_one (by rw [eC_range hn]; decide), eC_range hn, rat_none]
    clear hSa hSb
    by_cases h1 : n < 1
    · have t1 : decide (n < 1) = true := decide_eq_true h1
      clear hn
      go_enter Tryz.func22, Tryz.ntmps22
      go_wp2_with fail
      rw [← hW0]
      clear hW0
      go_wp2
      refine bodyPost_ret (v := .tuple #[.agg #[.string ⟨#[]⟩, .string ⟨#[]⟩], .int .i64 9]) (by simp [results, Tryz.results22, go_sem, k0, k1, hl0]) rfl ⟨rfl, by first | exact HFIN.out _ (Below.refl _ _) _ _ | exact HST0.out.below⟩
    · have t1 : decide (n < 1) = false := decide_eq_false h1
      have t2 : decide (50 < n) = true := decide_eq_true (by omega)
      clear hn
      go_enter Tryz.func22, Tryz.ntmps22
      go_wp2_with fail
      rw [← hW0]
      clear hW0
      go_wp2
      refine bodyPost_ret (v := .tuple #[.agg #[.string ⟨#[]⟩, .string ⟨#[]⟩], .int .i64 9]) (by simp [results, Tryz.results22, go_sem, k0, k1, hl0]) rfl ⟨rfl, by first | exact HFIN.out _ (Below.refl _ _) _ _ | exact HST0.out.below⟩
  · have t1 : decide (n < 1) = false := decide_eq_false (by omega)
    have t2 : decide (50 < n) = false := decide_eq_false (by omega)
    have HPO := Lib.hid (fun W => rPositive_any Sa Sb a b W hSa hSb ha hb)
    have hcn : eC n 1 a b = shC .positive a b := eC_ok hn
    by_cases hsh : shC .positive a b = 0
    · rw [hsh] at HPO
      have HFR := Lib.hid (fun W => rFrom_any Sa Sb a b W hSa hSb (shC_zero hsh).1)
      obtain ⟨s1, s2, s3, s4⟩ := posit_parts hsh
      have hw2 := wtC_two (c := n) (a := a) (b := b) (by rw [hcn]; exact hsh)
      have hw3 := wtC_three (c := n) (a := a) (b := b) (by rw [hcn]; exact hsh)
      have hok := wt_ok (c := n) (a := a) (b := b)
      have hbad := wt_bad (c := n) (a := a) (b := b)
      obtain ⟨q, hq⟩ : ∃ q, q = ratX a b := ⟨_, rfl⟩
      rw [← hq] at HFR s1 s2 s3 s4 hw2 hw3 hok
      obtain ⟨N, rfl⟩ : ∃ N : Nat, n = N := ⟨n.toNat, by omega⟩
      rw [Int.toNat_natCast] at hok
      have hN : N ≤ 50 := by omega
      have rWholeN := Lib.hid (fun W => rWhole_any (N : Int) W (by omega) (by omega))
      have hsq : Sz 2 q := ⟨T4_small (by omega) (by omega), T4_small (by omega) (by omega)⟩
      have hsn : Sz 2 ((N : Int) : Rat) := sz_int2 (T4_small (by omega) (by omega)) (by omega)
      have HCP := Lib.hid (fun u v W (hu : FracR W u q) (hv : FracR W v ((N : Int) : Rat)) => rOrder_any 2 u v q ((N : Int) : Rat) W (by omega) hu hv hsq hsn)
      obtain ⟨o, ho⟩ : ∃ o, o = ordQ q ((N : Int) : Rat) := ⟨_, rfl⟩
      rw [← ho] at HCP hw2 hw3
      by_cases hlt : o < 0
      · have t3 : decide (0 ≤ o) = false := by simpa using hlt
        have hac : q < ((N : Int) : Rat) := ordQ_lt.1 (by rw [← ho]; exact hlt)
        obtain ⟨hv, he⟩ := hok (hw2 hlt)
        rw [hv, he]
        have HWT := Lib.hid (fun v W (hu : FracR W v q) => r10Waiting_any N v q W hN hu s1 s2 s3 s4 hac)
        have hz : Sz 100000 (erW q N) := er_szW s1 s2 s3 s4 hN hac
        obtain ⟨r, hr⟩ : ∃ r, r = erW q N := ⟨_, rfl⟩
        rw [← hr] at HWT hz ⊢
        -- the ratio of r
        have hrt : ratOf (rtT r) = .agg #[.string ⟨(rtT r).1.toArray⟩, .string ⟨(rtT r).2.toArray⟩] := rfl
        obtain ⟨R1, hR1⟩ : ∃ R : ByteArray, R = ⟨(rtT r).1.toArray⟩ := ⟨_, rfl⟩
        obtain ⟨R2, hR2⟩ : ∃ R : ByteArray, R = ⟨(rtT r).2.toArray⟩ := ⟨_, rfl⟩
        rw [← hR1, ← hR2] at hrt
        obtain ⟨rc, hrc⟩ : ∃ rc, rc = rtC r := ⟨_, rfl⟩
        have HRA := Lib.hid (fun W v (hb : Below w.heap.size w W) (hv : FracR W v r) => rResult_any v r W hv hz ((htab.on hb).mono hb.size))
        rw [hrt] at HRA
        rw [← hrc] at HRA ⊢
        rw [hrt]
        clear hv he hcn hsh hSa hSb hq hr hrt hR1 hR2 hrc s1 s2 s3 s4 hn hz hw2 hw3 hok hbad ho hac hsq hsn
        go_enter Tryz.func22, Tryz.ntmps22
        go_wp2_with fail
        rw [← hW0]
        clear hW0
        (with_reducible refine (HPO.out _).mono ?_)
        rintro e w1 ⟨rfl, hb1⟩
        have HB1 := Lib.hid hb1
        clear p0 p1 k0 k1 z0 z1 hl0
        obtain ⟨p0, p1, k0, k1, z0, z1, hl0⟩ := HK.out w1 hb1
        clear hb1
        go_wp2_with fail
        (with_reducible refine (HFR.out _).mono ?_)
        rintro e w2 ⟨v2, rfl, hv2, hb2⟩
        obtain ⟨b2, A2, c2, l2, D2, d2, m2, rfl⟩ := hv2.shape
        have HB2 := Lib.hid (below_next HB1.out hb2)
        clear p0 p1 k0 k1 z0 z1 hl0
        obtain ⟨p0, p1, k0, k1, z0, z1, hl0⟩ := HK.out w2 HB2.out
        obtain ⟨W3, hW3⟩ : ∃ W3, W3 = w2.alloc (.cells #[.bool b2, .slice A2 l2.length c2, .slice D2 m2.length d2] 35) := ⟨_, rfl⟩
        have hb23 : Below w2.heap.size w2 W3 := by rw [hW3]; exact (Below.refl _ w2).alloc (Nat.le_refl _) _
        have HQ3 := Lib.hid (hv2.on hb23)
        have HBX := Lib.hid (show W3.heap[w2.heap.size]? = some (.cells #[.bool b2, .slice A2 l2.length c2, .slice D2 m2.length d2] 35 (0, 0)) by rw [hW3]; exact alloc_at _ _ _ rfl)
        have HB3 := Lib.hid (below_next HB2.out hb23)
        clear hv2 hb2 hb23
        clear p0 p1 k0 k1 z0 z1 hl0
        obtain ⟨p0, p1, k0, k1, z0, z1, hl0⟩ := HK.out W3 HB3.out
        go_wp2_with fail
        rw [← hW3]
        clear hW3
        have HKS := Lib.hid (show ∀ X, Below W3.heap.size W3 X → (fun X => Below W3.heap.size W3 X ∧ X.cell? ⟨w2.heap.size, 0, none⟩ = some (.bool b2) ∧ X.cell? ⟨w2.heap.size, 1, none⟩ = some (.slice A2 l2.length c2) ∧ X.cell? ⟨w2.heap.size, 2, none⟩ = some (.slice D2 m2.length d2)) X from fun X hX => by
          have e := (hX.block _ (heap_lt HBX.out)).trans HBX.out
          exact ⟨hX, by rw [cellsAt e]; rfl, by rw [cellsAt e]; rfl, by rw [cellsAt e]; rfl⟩)
        refine wp_region_last (init := #[_, _, _, _]) (last := _) rfl (by kernel_rfl) (by kernel_rfl) (by kernel_rfl) ?_
        show wpAny _ _ _ _ 4 (Array.replicate 4 false) _ W3.drew
        refine wpAny_of_held (S := (fun X => Below W3.heap.size W3 X ∧ X.cell? ⟨w2.heap.size, 0, none⟩ = some (.bool b2) ∧ X.cell? ⟨w2.heap.size, 1, none⟩ = some (.slice A2 l2.length c2) ∧ X.cell? ⟨w2.heap.size, 2, none⟩ = some (.slice D2 m2.length d2))) _ _ _ _ ?_
        have HS0 := HKS.out _ (Below.refl _ W3).drew
        have hbx0 : Below W3.heap.size W3 W3.drew := (Below.refl _ _).drew
        obtain ⟨Xx0, hXx0⟩ : ∃ X, X = W3.drew := ⟨_, rfl⟩
        rw [← hXx0] at hbx0 HS0 ⊢
        have HBx0 := Lib.hid hbx0
        clear hbx0 hXx0
        refine wpAnyH_take (i := 0) (v := ?_) rfl (by kernel_rfl) (by kernel_rfl) (by kernel_rfl) (fun _ _ _ h => h) (Or.inl ⟨by rfl, ?_⟩) HS0 ?_
        rotate_left
        · intro W hW; (try dsimp only at hW); go_simp; try (with_reducible rfl)
        (try simp only [List.getElem_toArray, List.getElem_cons_succ, List.getElem_cons_zero, Act.put, List.setIfInBounds_toArray, List.set_cons_zero, List.set_cons_succ])
        refine wpAnyH_take (i := 1) (v := ?_) rfl (by kernel_rfl) (by kernel_rfl) (by kernel_rfl) (fun _ _ _ h => h) (Or.inl ⟨by rfl, ?_⟩) HS0 ?_
        rotate_left
        · intro W hW; (try dsimp only at hW); go_simp; try (with_reducible rfl)
        (try simp only [List.getElem_toArray, List.getElem_cons_succ, List.getElem_cons_zero, Act.put, List.setIfInBounds_toArray, List.set_cons_zero, List.set_cons_succ])
        clear HS0
        refine run_one (i := 2) (by kernel_rfl) rfl rfl ?_
        intro K hK
        go_simp
        (with_reducible refine (rWholeN.out Xx0).mono ?_)
        rintro e Xx1 ⟨v1, rfl, hvx1, hbx1⟩
        have HBx1 := Lib.hid (below_next (HBx0.out) hbx1)
        refine hK.out _ _ (HKS.out _ HBx1.out) ?_
        clear hK K
        intro _
        obtain ⟨bwn, Awn, cwn, lwn, Dwn, dwn, mwn, rfl⟩ := hvx1.shape
        (try simp only [List.getElem_toArray, List.getElem_cons_succ, List.getElem_cons_zero, Act.put, List.setIfInBounds_toArray, List.set_cons_zero, List.set_cons_succ])
        refine run_one (i := 3) (by kernel_rfl) rfl rfl ?_
        intro K hK
        go_simp
        (with_reducible refine (HCP.out _ _ Xx1 (HQ3.out.on (HBx1.out)) (hvx1)).mono ?_)
        rintro e Xx2 ⟨rfl, hbx2⟩
        have HBx2 := Lib.hid (below_next (HBx1.out) hbx2)
        refine hK.out _ _ (HKS.out _ HBx2.out) ?_
        clear hK K
        intro _
        (try simp only [List.getElem_toArray, List.getElem_cons_succ, List.getElem_cons_zero, Act.put, List.setIfInBounds_toArray, List.set_cons_zero, List.set_cons_succ])
        refine wpAnyH_done (by kernel_rfl) ?_ _
        simp only [LastQ]
        have HB5 := Lib.hid (below_next HB3.out (HBx2.out))
        have HQ5 := Lib.hid (HQ3.out.on (HBx2.out))
        have hks := HKS.out _ (HBx2.out)
        obtain ⟨-, g0, g1, g2⟩ := hks
        clear HQ3
        clear p0 p1 k0 k1 z0 z1 hl0
        obtain ⟨p0, p1, k0, k1, z0, z1, hl0⟩ := HK.out _ HB5.out
        go_simp
        go_wp2_with fail
        (with_reducible refine (HWT.out _ _ HQ5.out).mono ?_)
        rintro e w3 ⟨v3, rfl, hv3, hb3⟩
        obtain ⟨b3, A3, c3, l3, D3, d3, m3, rfl⟩ := hv3.shape
        have HB3 := Lib.hid (below_next HB5.out hb3)
        have HRA3 := Lib.hid (HRA.out w3 _ (below_next HST0.out.below HB3.out) hv3)
        clear p0 p1 k0 k1 z0 z1 hl0
        clear hb3 hv3
        go_wp2_with fail
        (with_reducible refine (HRA3.out).mono ?_)
        rintro e w4 ⟨rfl, hb4⟩
        have HB4 := Lib.hid (below_next HB3.out hb4)
        obtain ⟨p0, p1, k0, k1, z0, z1, hl0⟩ := HK.out w4 HB4.out
        go_wp2
        refine bodyPost_ret (v := .tuple #[.agg #[.string R1, .string R2], .int .i64 rc]) (by simp [results, Tryz.results22, go_sem, k0, k1, hl0]) rfl ⟨rfl, HFIN.out _ HB4.out _ _⟩
      · have t3 : decide (0 ≤ o) = true := decide_eq_true (by omega)
        obtain ⟨hv, he⟩ := hbad (by rw [hw3 hlt]; decide)
        rw [hv, he, hw3 hlt, rat_none]
        clear hv he hcn hsh hSa hSb hq hn s1 s2 s3 s4 hw2 hw3 hok hbad ho hsq hsn
        go_enter Tryz.func22, Tryz.ntmps22
        go_wp2_with fail
        rw [← hW0]
        clear hW0
        (with_reducible refine (HPO.out _).mono ?_)
        rintro e w1 ⟨rfl, hb1⟩
        have HB1 := Lib.hid hb1
        clear p0 p1 k0 k1 z0 z1 hl0
        obtain ⟨p0, p1, k0, k1, z0, z1, hl0⟩ := HK.out w1 hb1
        clear hb1
        go_wp2_with fail
        (with_reducible refine (HFR.out _).mono ?_)
        rintro e w2 ⟨v2, rfl, hv2, hb2⟩
        obtain ⟨b2, A2, c2, l2, D2, d2, m2, rfl⟩ := hv2.shape
        have HB2 := Lib.hid (below_next HB1.out hb2)
        clear p0 p1 k0 k1 z0 z1 hl0
        obtain ⟨p0, p1, k0, k1, z0, z1, hl0⟩ := HK.out w2 HB2.out
        obtain ⟨W3, hW3⟩ : ∃ W3, W3 = w2.alloc (.cells #[.bool b2, .slice A2 l2.length c2, .slice D2 m2.length d2] 35) := ⟨_, rfl⟩
        have hb23 : Below w2.heap.size w2 W3 := by rw [hW3]; exact (Below.refl _ w2).alloc (Nat.le_refl _) _
        have HQ3 := Lib.hid (hv2.on hb23)
        have HBX := Lib.hid (show W3.heap[w2.heap.size]? = some (.cells #[.bool b2, .slice A2 l2.length c2, .slice D2 m2.length d2] 35 (0, 0)) by rw [hW3]; exact alloc_at _ _ _ rfl)
        have HB3 := Lib.hid (below_next HB2.out hb23)
        clear hv2 hb2 hb23
        clear p0 p1 k0 k1 z0 z1 hl0
        obtain ⟨p0, p1, k0, k1, z0, z1, hl0⟩ := HK.out W3 HB3.out
        go_wp2_with fail
        rw [← hW3]
        clear hW3
        have HKS := Lib.hid (show ∀ X, Below W3.heap.size W3 X → (fun X => Below W3.heap.size W3 X ∧ X.cell? ⟨w2.heap.size, 0, none⟩ = some (.bool b2) ∧ X.cell? ⟨w2.heap.size, 1, none⟩ = some (.slice A2 l2.length c2) ∧ X.cell? ⟨w2.heap.size, 2, none⟩ = some (.slice D2 m2.length d2)) X from fun X hX => by
          have e := (hX.block _ (heap_lt HBX.out)).trans HBX.out
          exact ⟨hX, by rw [cellsAt e]; rfl, by rw [cellsAt e]; rfl, by rw [cellsAt e]; rfl⟩)
        refine wp_region_last (init := #[_, _, _, _]) (last := _) rfl (by kernel_rfl) (by kernel_rfl) (by kernel_rfl) ?_
        show wpAny _ _ _ _ 4 (Array.replicate 4 false) _ W3.drew
        refine wpAny_of_held (S := (fun X => Below W3.heap.size W3 X ∧ X.cell? ⟨w2.heap.size, 0, none⟩ = some (.bool b2) ∧ X.cell? ⟨w2.heap.size, 1, none⟩ = some (.slice A2 l2.length c2) ∧ X.cell? ⟨w2.heap.size, 2, none⟩ = some (.slice D2 m2.length d2))) _ _ _ _ ?_
        have HS0 := HKS.out _ (Below.refl _ W3).drew
        have hbx0 : Below W3.heap.size W3 W3.drew := (Below.refl _ _).drew
        obtain ⟨Xx0, hXx0⟩ : ∃ X, X = W3.drew := ⟨_, rfl⟩
        rw [← hXx0] at hbx0 HS0 ⊢
        have HBx0 := Lib.hid hbx0
        clear hbx0 hXx0
        refine wpAnyH_take (i := 0) (v := ?_) rfl (by kernel_rfl) (by kernel_rfl) (by kernel_rfl) (fun _ _ _ h => h) (Or.inl ⟨by rfl, ?_⟩) HS0 ?_
        rotate_left
        · intro W hW; (try dsimp only at hW); go_simp; try (with_reducible rfl)
        (try simp only [List.getElem_toArray, List.getElem_cons_succ, List.getElem_cons_zero, Act.put, List.setIfInBounds_toArray, List.set_cons_zero, List.set_cons_succ])
        refine wpAnyH_take (i := 1) (v := ?_) rfl (by kernel_rfl) (by kernel_rfl) (by kernel_rfl) (fun _ _ _ h => h) (Or.inl ⟨by rfl, ?_⟩) HS0 ?_
        rotate_left
        · intro W hW; (try dsimp only at hW); go_simp; try (with_reducible rfl)
        (try simp only [List.getElem_toArray, List.getElem_cons_succ, List.getElem_cons_zero, Act.put, List.setIfInBounds_toArray, List.set_cons_zero, List.set_cons_succ])
        clear HS0
        refine run_one (i := 2) (by kernel_rfl) rfl rfl ?_
        intro K hK
        go_simp
        (with_reducible refine (rWholeN.out Xx0).mono ?_)
        rintro e Xx1 ⟨v1, rfl, hvx1, hbx1⟩
        have HBx1 := Lib.hid (below_next (HBx0.out) hbx1)
        refine hK.out _ _ (HKS.out _ HBx1.out) ?_
        clear hK K
        intro _
        obtain ⟨bwn, Awn, cwn, lwn, Dwn, dwn, mwn, rfl⟩ := hvx1.shape
        (try simp only [List.getElem_toArray, List.getElem_cons_succ, List.getElem_cons_zero, Act.put, List.setIfInBounds_toArray, List.set_cons_zero, List.set_cons_succ])
        refine run_one (i := 3) (by kernel_rfl) rfl rfl ?_
        intro K hK
        go_simp
        (with_reducible refine (HCP.out _ _ Xx1 (HQ3.out.on (HBx1.out)) (hvx1)).mono ?_)
        rintro e Xx2 ⟨rfl, hbx2⟩
        have HBx2 := Lib.hid (below_next (HBx1.out) hbx2)
        refine hK.out _ _ (HKS.out _ HBx2.out) ?_
        clear hK K
        intro _
        (try simp only [List.getElem_toArray, List.getElem_cons_succ, List.getElem_cons_zero, Act.put, List.setIfInBounds_toArray, List.set_cons_zero, List.set_cons_succ])
        refine wpAnyH_done (by kernel_rfl) ?_ _
        simp only [LastQ]
        have HB5 := Lib.hid (below_next HB3.out (HBx2.out))
        have HQ5 := Lib.hid (HQ3.out.on (HBx2.out))
        have hks := HKS.out _ (HBx2.out)
        obtain ⟨-, g0, g1, g2⟩ := hks
        clear HQ3
        clear p0 p1 k0 k1 z0 z1 hl0
        obtain ⟨p0, p1, k0, k1, z0, z1, hl0⟩ := HK.out _ HB5.out
        go_simp
        go_wp2
        refine bodyPost_ret (v := .tuple #[.agg #[.string ⟨#[]⟩, .string ⟨#[]⟩], .int .i64 9]) (by simp [results, Tryz.results22, go_sem, k0, k1, hl0]) rfl ⟨rfl, HFIN.out _ HB5.out _ _⟩
    · obtain ⟨cc, hcc⟩ : ∃ cc, cc = shC .positive a b := ⟨_, rfl⟩
      rw [(wt_bad (c := n) (a := a) (b := b) (by rw [wtC_one (by rw [hcn]; exact hsh), hcn]; exact hsh)).1, (wt_bad (c := n) (a := a) (b := b) (by rw [wtC_one (by rw [hcn]; exact hsh), hcn]; exact hsh)).2, wtC_one (by rw [hcn]; exact hsh), hcn, rat_none, ← hcc]
      rw [← hcc] at HPO hsh
      have t3 : (cc != 0) = true := by rw [bne_iff_ne]; exact hsh
      clear hcn hsh hcc hSa hSb hn
      go_enter Tryz.func22, Tryz.ntmps22
      go_wp2_with fail
      rw [← hW0]
      clear hW0
      (with_reducible refine (HPO.out _).mono ?_)
      rintro e w1 ⟨rfl, hb1⟩
      have HB1 := Lib.hid hb1
      clear p0 p1 k0 k1 z0 z1 hl0
      obtain ⟨p0, p1, k0, k1, z0, z1, hl0⟩ := HK.out w1 hb1
      clear hb1
      go_wp2
      refine bodyPost_ret (v := .tuple #[.agg #[.string ⟨#[]⟩, .string ⟨#[]⟩], .int .i64 cc]) (by simp [results, Tryz.results22, go_sem, k0, k1, hl0]) rfl ⟨rfl, HFIN.out _ HB1.out _ _⟩
end Go.Proofs.YtpmnhdgajkickaaGreatDoor
