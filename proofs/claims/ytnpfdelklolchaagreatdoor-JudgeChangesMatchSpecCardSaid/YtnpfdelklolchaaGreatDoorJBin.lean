/- Package judge: Binomial. -/
import Derived.Test.YtnpfdelklolchaaGreatDoorJShort
import Derived.Test.YtnpfdelklolchaaGreatDoorJRatio
import Derived.Test.YtnpfdelklolchaaGreatDoorG27
import Derived.Test.YtnpfdelklolchaaGreatDoorNatAdd
namespace Go.Proofs.YtnpfdelklolchaaGreatDoor
open Go Go.RowKit Go.Proofs

set_option maxHeartbeats 8000000 in
set_option maxRecDepth 100000 in
theorem jBinomial_any (Sa Sb : ByteArray) (a b : List UInt8) (n k : Int) (w : World) (hSa : Sa.data.toList = a) (hSb : Sb.data.toList = b) (ha : Sa.size ≤ 9223372036854775800) (hb : Sb.size ≤ 9223372036854775800) (hk0 : -9223372036854775808 ≤ k) (hk1 : k ≤ 9223372036854775807) (htab : Tab w.heap.size w) :
    Calls Tryz.prog 36 #[.int .i64 n, .int .i64 k, .agg #[.string Sa, .string Sb]] w fun e w' => e = .returned (.tuple #[ratOf (binV n k a b), .int .i64 (binE n k a b)]) ∧ Below w.heap.size w w' := by
  obtain ⟨W0, hW0⟩ : ∃ W0, W0 = (w.alloc (.cells #[.string Sa, .string Sb] 24)).alloc (.cells #[.string ⟨#[]⟩, .string ⟨#[]⟩] 24) := ⟨_, rfl⟩
  have HST0 := Lib.hid (show St w W0 [(w.heap.size, .cells #[.string Sa, .string Sb] 24 (0, 0)), (w.heap.size + 1, .cells #[.string ⟨#[]⟩, .string ⟨#[]⟩] 24 (0, 0))] by rw [hW0]; exact ((St.start w).alloc _ _ rfl).alloc _ _ (by simp))
  have HFIN := Lib.hid (show ∀ W, Below W0.heap.size W0 W → ∀ x y, Below w.heap.size w ((W.setCell ⟨w.heap.size + 1, 0, none⟩ x).setCell ⟨w.heap.size + 1, 1, none⟩ y) from fun W hb x y => ((below_next HST0.out.below hb).setCell (p := ⟨w.heap.size + 1, 0, none⟩) (by simp) x).setCell (p := ⟨w.heap.size + 1, 1, none⟩) (by simp) y)
  have HK := Lib.hid (show ∀ X, Below W0.heap.size W0 X → X.cell? ⟨w.heap.size, 0, none⟩ = some (.string Sa) ∧ X.cell? ⟨w.heap.size, 1, none⟩ = some (.string Sb) ∧ X.cell? ⟨w.heap.size + 1, 0, none⟩ = some (.string ⟨#[]⟩) ∧ X.cell? ⟨w.heap.size + 1, 1, none⟩ = some (.string ⟨#[]⟩) ∧ X.frozen? ⟨w.heap.size + 1, 0, none⟩ = false ∧ X.frozen? ⟨w.heap.size + 1, 1, none⟩ = false ∧ w.heap.size + 1 < X.heap.size from fun X hX => ⟨(HST0.out.call hX).cell 0 0 rfl rfl, (HST0.out.call hX).cell 0 1 rfl rfl, (HST0.out.call hX).cell 1 0 rfl rfl, (HST0.out.call hX).cell 1 1 rfl rfl, (HST0.out.call hX).frozen 1 0 rfl, (HST0.out.call hX).frozen 1 1 rfl, (HST0.out.call hX).lt 1 rfl⟩)
  obtain ⟨p0, p1, k0, k1, z0, z1, hl0⟩ := HK.out W0 (Below.refl _ _)
  have HIN := Lib.hid (fun W => jInside_any n 0 200 W)
  by_cases hn : n < 0 ∨ 200 < n
  · have hc : binC n a b = 9 := by unfold binC; rw [if_pos hn]
    obtain ⟨hv, he⟩ := binV_bad (n := n) (k := k) (a := a) (b := b) (by rw [hc]; decide)
    rw [hv, he, hc, rat_none]
    have hin : (decide (0 ≤ n) && decide (n ≤ 200)) = false := by
      rw [Bool.eq_false_iff]; simp; omega
    rw [hin] at HIN
    clear hv he hc hSa hSb hin
    obtain ⟨R1, hR1⟩ : ∃ R : ByteArray, R = ⟨#[]⟩ := ⟨_, rfl⟩
    go_enter Tryz.func36, Tryz.ntmps36
    go_wp2_with fail
    rw [← hW0]
    clear hW0
    go_wp2_with fail
    (with_reducible refine (HIN.out _).mono ?_)
    rintro e wi ⟨rfl, hwi⟩
    have hwi' := hwi.symm
    subst hwi'
    go_wp2
    refine bodyPost_ret (v := .tuple #[.agg #[.string ⟨#[]⟩, .string ⟨#[]⟩], .int .i64 9]) (by simp [results, Tryz.results36, go_sem, k0, k1]) rfl ⟨rfl, HFIN.out _ (Below.refl _ _) _ _⟩
  · have hin : (decide (0 ≤ n) && decide (n ≤ 200)) = true := by
      rw [Bool.and_eq_true, decide_eq_true_eq, decide_eq_true_eq]; omega
    rw [hin] at HIN
    have hcn : binC n a b = shC .share a b := by unfold binC; rw [if_neg hn]
    obtain ⟨cc, hcc⟩ : ∃ cc, cc = binC n a b := ⟨_, rfl⟩
    by_cases hc0 : cc = 0
    · rw [hc0] at hcc
      have hsh : shC .share a b = 0 := by rw [← hcn]; exact hcc.symm
      obtain ⟨hv, he⟩ := binV_good (k := k) hcc.symm
      rw [hv, he]
      have HSH := Lib.hid (fun W => (show Calls Tryz.prog 82 #[.agg #[.string Sa, .string Sb], .func (.func 83) #[] #[]] W _ from jShort_good .share Sa Sb a b W hSa hSb ha hb hsh))
      obtain ⟨hs1, hs2⟩ := share_parts hsh
      obtain ⟨q, hq⟩ : ∃ q, q = ratX a b := ⟨_, rfl⟩
      rw [← hq] at HSH hs1 hs2 ⊢
      obtain ⟨N, rfl⟩ : ∃ N : Nat, n = N := ⟨n.toNat, by omega⟩
      rw [Int.toNat_natCast]
      have hN : N ≤ 200 := by omega
      have HRAT := Lib.hid (fun r c (W : World) (v : Value) (s : Bool) (x y m : Nat) (hb : Below w.heap.size w W) (hv : JF W v s x y) (hx : x < W64 ^ m) (hy : y < W64 ^ m) (hm : m ≤ 1000) (hy0 : 0 < y) (hr : rtT (mkRat (sg s x) y) = r) (hc : rtC (mkRat (sg s x) y) = c) => show Calls Tryz.prog 34 #[v] W fun e w' => e = .returned (.tuple #[ratOf r, .int .i64 c]) ∧ Below W.heap.size W w' by
        subst hr hc
        exact jRatio_any v s x y m W hv hx hy hm hy0 ((htab.on hb).mono hb.size))
      by_cases hkn : k < 0
      · rw [binQ_neg hkn]
        have t1 : decide (k < 0) = true := decide_eq_true hkn
        have HWH := Lib.hid (fun W => jWhole_any 0 W (by omega) (by omega))
        rw [show (decide ((0 : Int) < 0)) = false from rfl, show (0 : Int).natAbs = 0 from rfl] at HWH
        have hrt : ratOf (rtT 0) = .agg #[.string ⟨(rtT 0).1.toArray⟩, .string ⟨(rtT 0).2.toArray⟩] := rfl
        obtain ⟨R1, hR1⟩ : ∃ R : ByteArray, R = ⟨(rtT 0).1.toArray⟩ := ⟨_, rfl⟩
        obtain ⟨R2, hR2⟩ : ∃ R : ByteArray, R = ⟨(rtT 0).2.toArray⟩ := ⟨_, rfl⟩
        rw [← hR1, ← hR2] at hrt
        obtain ⟨rc, hrc⟩ : ∃ rc, rc = rtC 0 := ⟨_, rfl⟩
        have HRA := Lib.hid (fun W v hb hv => HRAT.out (rtT 0) rc W v false 0 1 1 hb hv (W64_gt 0 (by omega)) (W64_gt 1 (by omega)) (by omega) (by omega) (by rw [low_zero]) (by rw [low_zero]; exact hrc.symm))
        rw [hrt] at HRA
        rw [hrt, ← hrc]
        clear hv he hcc hcn hSa hSb hq hsh hs1 hs2 hc0 hrt hR1 hR2 hrc hin HRAT
        go_enter Tryz.func36, Tryz.ntmps36
        go_wp2_with fail
        rw [← hW0]
        clear hW0
        go_wp2_with fail
        (with_reducible refine (HIN.out _).mono ?_)
        rintro e wi ⟨rfl, hwi⟩
        have hwi' := hwi.symm
        subst hwi'
        go_wp2_with fail
        (with_reducible refine (HSH.out _).mono ?_)
        rintro e w1 ⟨A1, c1, l1, A2, c2, l2, rfl, h1, h2, hb1⟩
        obtain ⟨W2, hW2⟩ : ∃ W2, W2 = w1.alloc (.cells #[.bool false, .slice A1 l1.length c1, .slice A2 l2.length c2] 73) := ⟨_, rfl⟩
        have hb12 : Below w1.heap.size w1 W2 := by rw [hW2]; exact (Below.refl _ w1).alloc (Nat.le_refl _) _
        have HN1 := Lib.hid (h1.on hb12)
        have HN2 := Lib.hid (h2.on hb12)
        have HBX := Lib.hid (show W2.heap[w1.heap.size]? = some (.cells #[.bool false, .slice A1 l1.length c1, .slice A2 l2.length c2] 73 (0, 0)) by rw [hW2]; exact alloc_at _ _ _ rfl)
        have HB2 := Lib.hid (below_next hb1 hb12)
        clear p0 p1 k0 k1 z0 z1 hl0 h1 h2 hb1 hb12
        obtain ⟨p0, p1, k0, k1, z0, z1, hl0⟩ := HK.out W2 HB2.out
        go_wp2_with fail
        rw [← hW2]
        clear hW2
        (with_reducible refine (HWH.out _).mono ?_)
        rintro e w3 ⟨v3, rfl, hv3, hb3⟩
        have HB3 := Lib.hid (below_next HB2.out hb3)
        have HRA3 := Lib.hid (HRA.out w3 v3 (below_next HST0.out.below HB3.out) hv3)
        obtain ⟨A7, c7, l7, A8, c8, l8, rfl, -, -⟩ := hv3
        clear p0 p1 k0 k1 z0 z1 hl0 hb3
        go_wp2_with fail
        (with_reducible refine (HRA3.out).mono ?_)
        rintro e w4 ⟨rfl, hb4⟩
        have HB4 := Lib.hid (below_next HB3.out hb4)
        obtain ⟨p0, p1, k0, k1, z0, z1, hl0⟩ := HK.out w4 HB4.out
        go_wp2
        refine bodyPost_ret (v := .tuple #[.agg #[.string R1, .string R2], .int .i64 rc]) (by simp [results, Tryz.results36, go_sem, k0, k1]) rfl ⟨rfl, HFIN.out _ HB4.out _ _⟩
      · have t1 : decide (k < 0) = false := decide_eq_false hkn
        by_cases hkN : (N : Int) ≤ k
        · rw [binQ_all hkN hs1]
          have t2 : decide ((N : Int) ≤ k) = true := decide_eq_true hkN
          have HWH := Lib.hid (fun W => jWhole_any 1 W (by omega) (by omega))
          rw [show (decide ((1 : Int) < 0)) = false from rfl, show (1 : Int).natAbs = 1 from rfl] at HWH
          have hrt : ratOf (rtT 1) = .agg #[.string ⟨(rtT 1).1.toArray⟩, .string ⟨(rtT 1).2.toArray⟩] := rfl
          obtain ⟨R1, hR1⟩ : ∃ R : ByteArray, R = ⟨(rtT 1).1.toArray⟩ := ⟨_, rfl⟩
          obtain ⟨R2, hR2⟩ : ∃ R : ByteArray, R = ⟨(rtT 1).2.toArray⟩ := ⟨_, rfl⟩
          rw [← hR1, ← hR2] at hrt
          obtain ⟨rc, hrc⟩ : ∃ rc, rc = rtC 1 := ⟨_, rfl⟩
          have e1 : mkRat (sg false 1) 1 = 1 := by decide
          have HRA := Lib.hid (fun W v hb hv => HRAT.out (rtT 1) rc W v false 1 1 1 hb hv (W64_gt 1 (by omega)) (W64_gt 1 (by omega)) (by omega) (by omega) (by rw [e1]) (by rw [e1]; exact hrc.symm))
          rw [hrt] at HRA
          rw [hrt, ← hrc]
          clear hv he hcc hcn hSa hSb hq hsh hs1 hs2 hc0 hrt hR1 hR2 hrc hin HRAT e1
          go_enter Tryz.func36, Tryz.ntmps36
          go_wp2_with fail
          rw [← hW0]
          clear hW0
          go_wp2_with fail
          (with_reducible refine (HIN.out _).mono ?_)
          rintro e wi ⟨rfl, hwi⟩
          have hwi' := hwi.symm
          subst hwi'
          go_wp2_with fail
          (with_reducible refine (HSH.out _).mono ?_)
          rintro e w1 ⟨A1, c1, l1, A2, c2, l2, rfl, h1, h2, hb1⟩
          obtain ⟨W2, hW2⟩ : ∃ W2, W2 = w1.alloc (.cells #[.bool false, .slice A1 l1.length c1, .slice A2 l2.length c2] 73) := ⟨_, rfl⟩
          have hb12 : Below w1.heap.size w1 W2 := by rw [hW2]; exact (Below.refl _ w1).alloc (Nat.le_refl _) _
          have HN1 := Lib.hid (h1.on hb12)
          have HN2 := Lib.hid (h2.on hb12)
          have HBX := Lib.hid (show W2.heap[w1.heap.size]? = some (.cells #[.bool false, .slice A1 l1.length c1, .slice A2 l2.length c2] 73 (0, 0)) by rw [hW2]; exact alloc_at _ _ _ rfl)
          have HB2 := Lib.hid (below_next hb1 hb12)
          clear p0 p1 k0 k1 z0 z1 hl0 h1 h2 hb1 hb12
          obtain ⟨p0, p1, k0, k1, z0, z1, hl0⟩ := HK.out W2 HB2.out
          go_wp2_with fail
          rw [← hW2]
          clear hW2
          (with_reducible refine (HWH.out _).mono ?_)
          rintro e w3 ⟨v3, rfl, hv3, hb3⟩
          have HB3 := Lib.hid (below_next HB2.out hb3)
          have HRA3 := Lib.hid (HRA.out w3 v3 (below_next HST0.out.below HB3.out) hv3)
          obtain ⟨A7, c7, l7, A8, c8, l8, rfl, -, -⟩ := hv3
          clear p0 p1 k0 k1 z0 z1 hl0 hb3
          go_wp2_with fail
          (with_reducible refine (HRA3.out).mono ?_)
          rintro e w4 ⟨rfl, hb4⟩
          have HB4 := Lib.hid (below_next HB3.out hb4)
          obtain ⟨p0, p1, k0, k1, z0, z1, hl0⟩ := HK.out w4 HB4.out
          go_wp2
          refine bodyPost_ret (v := .tuple #[.agg #[.string R1, .string R2], .int .i64 rc]) (by simp [results, Tryz.results36, go_sem, k0, k1]) rfl ⟨rfl, HFIN.out _ HB4.out _ _⟩
        · have t2 : decide ((N : Int) ≤ k) = false := decide_eq_false hkN
          obtain ⟨J, rfl⟩ : ∃ J : Nat, k = J := ⟨k.toNat, by omega⟩
          have hJ : J < N := by omega
          unfold binQ
          rw [binS_mid hJ]
          obtain ⟨x, hx⟩ : ∃ x, x = frN q := ⟨_, rfl⟩
          obtain ⟨y, hy⟩ : ∃ y, y = q.den := ⟨_, rfl⟩
          rw [← hx, ← hy] at hs1 HSH ⊢
          rw [← hy] at hs2
          have hy0 : 0 < y := by rw [hy]; exact fr_den q
          have hyW : y ≤ W64 ^ 2 := Nat.le_trans hs2 (Nat.pow_le_pow_left (by unfold T4 W64; omega) _)
          have hW : (1 : Nat) < W64 := by unfold W64; omega
          have hy3 : y < W64 ^ 3 := Nat.lt_of_le_of_lt hyW (Nat.pow_lt_pow_right hW (by omega))
          obtain ⟨K, hK0, hK1⟩ : ∃ K, 401 ≤ K ∧ K ≤ 401 := ⟨401, Nat.le_refl _, Nat.le_refl _⟩
          have hpw : y ^ N < W64 ^ K := Nat.lt_of_lt_of_le (pow_small (K := 2) (n := N) hyW hW) (Nat.pow_le_pow_right (by omega) (by omega))
          have hxy : x + (y - x) = y := by omega
          have HBS := Lib.hid (show ∀ j, j ≤ N + 1 → bwS x (y - x) N j < W64 ^ K from fun j hj => Nat.lt_of_le_of_lt (bwS_le x (y - x) N j hj) (by rw [hxy]; exact hpw))
          have HBWT := Lib.hid (show ∀ j, j ≤ N → bw x (y - x) N j < W64 ^ K from fun j hj => Nat.lt_of_le_of_lt (bw_le x (y - x) N j hj) (by rw [hxy]; exact hpw))
          have hpp : 0 < y ^ N := Nat.pow_pos hy0
          have HROW := Lib.hid (fun W u (hu : JF W u false x y) => jRow_any N u x y W hu hN hs1 hyW)
          have HPW := Lib.hid (fun W A c l (h : NatR W A c l y) => natPow_any A c l y N 3 W h hy3 (by omega) (by omega))
          obtain ⟨S, hS⟩ : ∃ S, S = bwS x (y - x) N (J + 1) := ⟨_, rfl⟩
          obtain ⟨D, hD⟩ : ∃ D, D = y ^ N := ⟨_, rfl⟩
          have HSW := Lib.hid (show S < W64 ^ K by rw [hS]; exact HBS.out _ (by omega))
          have HSE := Lib.hid hS
          rw [← hD] at hpw hpp HPW
          have HDW := Lib.hid hpw
          rw [← hS, ← hD]
          have hsgS : sg false S = ((S : Nat) : Int) := rfl
          obtain ⟨r, hr⟩ : ∃ r, r = mkRat ((S : Nat) : Int) D := ⟨_, rfl⟩
          rw [← hr]
          have hrt : ratOf (rtT r) = .agg #[.string ⟨(rtT r).1.toArray⟩, .string ⟨(rtT r).2.toArray⟩] := rfl
          obtain ⟨R1, hR1⟩ : ∃ R : ByteArray, R = ⟨(rtT r).1.toArray⟩ := ⟨_, rfl⟩
          obtain ⟨R2, hR2⟩ : ∃ R : ByteArray, R = ⟨(rtT r).2.toArray⟩ := ⟨_, rfl⟩
          rw [← hR1, ← hR2] at hrt
          obtain ⟨rc, hrc⟩ : ∃ rc, rc = rtC r := ⟨_, rfl⟩
          have HRA := Lib.hid (fun W v hb hv => HRAT.out (rtT r) rc W v false S D K hb hv HSW.out HDW.out (by omega) hpp (by rw [hr, hsgS]) (by rw [hrc, hr, hsgS]))
          rw [hrt] at HRA
          rw [hrt, ← hrc]
          obtain ⟨d, hd⟩ : ∃ d, d = y - x := ⟨_, rfl⟩
          rw [← hd] at HBS HBWT HROW HSE
          have hJ1 : (J : Int) + 1 ≤ (N : Int) + 1 := by omega
          have hJ0 : (0 : Int) ≤ (J : Int) + 1 := by omega
          clear hv he hcc hcn hSa hSb hq hsh hs1 hs2 hc0 hrt hR1 hR2 hrc hin HRAT hx hy hxy hpw hpp hS hD hr hsgS hd hy3 hyW hy0
          go_enter Tryz.func36, Tryz.ntmps36
          go_wp2_with fail
          rw [← hW0]
          clear hW0
          go_wp2_with fail
          (with_reducible refine (HIN.out _).mono ?_)
          rintro e wi ⟨rfl, hwi⟩
          have hwi' := hwi.symm
          subst hwi'
          go_wp2_with fail
          (with_reducible refine (HSH.out _).mono ?_)
          rintro e w1 ⟨A1, c1, l1, A2, c2, l2, rfl, h1, h2, hb1⟩
          obtain ⟨W2, hW2⟩ : ∃ W2, W2 = w1.alloc (.cells #[.bool false, .slice A1 l1.length c1, .slice A2 l2.length c2] 73) := ⟨_, rfl⟩
          have hb12 : Below w1.heap.size w1 W2 := by rw [hW2]; exact (Below.refl _ w1).alloc (Nat.le_refl _) _
          have HN1 := Lib.hid (h1.on hb12)
          have HN2 := Lib.hid (h2.on hb12)
          have HBX := Lib.hid (show W2.heap[w1.heap.size]? = some (.cells #[.bool false, .slice A1 l1.length c1, .slice A2 l2.length c2] 73 (0, 0)) by rw [hW2]; exact alloc_at _ _ _ rfl)
          have HB2 := Lib.hid (below_next hb1 hb12)
          clear p0 p1 k0 k1 z0 z1 hl0 h1 h2 hb1 hb12
          obtain ⟨p0, p1, k0, k1, z0, z1, hl0⟩ := HK.out W2 HB2.out
          go_wp2_with fail
          rw [← hW2]
          clear hW2
          (with_reducible refine (HROW.out W2 _ (jf_mk HN1.out HN2.out)).mono ?_)
          rintro e w3 ⟨g, ns, rfl, hrow, hvals, hgw, hb3⟩
          have hnl : ns.length = N + 1 := by have := congrArg List.length hvals; rwa [nmVals_length, bwL_length] at this
          have HRW := Lib.hid hrow
          have HVL := Lib.hid hvals
          have HB23 := Lib.hid hb3
          clear p0 p1 k0 k1 z0 z1 hl0 hrow hvals hb3 hgw
          go_wp2
          go_loopw [10, 12, 49] (fun tv _ iv wr => ∃ j : Nat, iv = .int .i64 j ∧ j ≤ J + 1 ∧ ∃ At ct lt, tv = .slice At (lt : List Nat).length ct ∧ NatR wr At ct lt (bwS x d N j) ∧ Below w3.heap.size w3 wr) (fun _ _ iv _ => J + 1 - (intOf iv).toNat)
          case atStart => exact ⟨0, rfl, Nat.zero_le _, none, 0, [], rfl, natr_nil _, Below.refl _ _⟩
          case round =>
            obtain ⟨j, rfl, hj, At, ct, lt, rfl, hnt, hbw⟩ := hrel
            have HBW := Lib.hid hbw
            have hlt1 : lt.length ≤ K := hnt.len (HBS.out j (by omega))
            by_cases hlj : j < J + 1
            · obtain ⟨z, hz⟩ : ∃ z, ns[j]? = some z := ⟨ns[j]'(by omega), List.getElem?_eq_getElem (by omega)⟩
              have hzx : z.x = bw x d N j := by
                have h1 := nmVals_get hz
                rw [HVL.out, bwL_get x d N j (by omega)] at h1
                exact (Option.some.inj h1).symm
              have hr := HRW.out.on hbw
              have q0 : wr.cell? ⟨g, j, none⟩ = some (.slice z.A z.l.length z.c) := hr.1.cell (nmCells_get hz)
              have hnz := hr.2 z (List.mem_of_getElem? hz)
              have hzl : z.l.length ≤ K := hnz.len (by rw [hzx]; exact HBWT.out j (by omega))
              have HA := Lib.hid (natAdd_any At z.A ct z.c lt z.l _ z.x wr hnt hnz (by omega) (by omega))
              rw [hzx, show bwS x d N j + bw x d N j = bwS x d N (j + 1) from rfl] at HA
              clear hnt hbw hnz hzx hz hr
              go_wp2_with fail
              (with_reducible refine (HA.out).mono ?_)
              rintro e w4 ⟨A4, c4, l4, rfl, hn4, hb4⟩
              have HN4 := Lib.hid hn4
              have HB4 := Lib.hid (below_next HBW.out hb4)
              clear HA hn4 hb4 q0
              go_wp2
              go_roundw
              case rel => exact ⟨j + 1, by go_num, by omega, A4, c4, l4, rfl, HN4.out, HB4.out⟩
              case measure => simp [intOf]; omega
            · obtain rfl : j = J + 1 := by omega
              have hb5 := below_next HB23.out hbw
              have HB5 := Lib.hid hb5
              have hbx := (hb5.block _ (heap_lt HBX.out)).trans HBX.out
              have g2 : wr.cell? ⟨w1.heap.size, 2, none⟩ = some (.slice A2 l2.length c2) := by rw [cellsAt hbx]; rfl
              have HP := Lib.hid (HPW.out wr A2 c2 l2 (HN2.out.on hb5))
              rw [← HSE.out] at hnt
              have HNT := Lib.hid hnt
              clear hnt hbw hb5 hbx
              go_wp2_with fail
              (with_reducible refine (HP.out).mono ?_)
              rintro e w6 ⟨A6, c6, l6, rfl, hn6, hb6⟩
              have HOF := Lib.hid (jOf_any At A6 ct c6 lt l6 S D w6 (HNT.out.on hb6) hn6)
              have HB6 := Lib.hid (below_next HB2.out (below_next HB5.out hb6))
              clear HP hn6 hb6 g2
              go_wp2_with fail
              (with_reducible refine (HOF.out).mono ?_)
              rintro e w7 ⟨v7, rfl, hv7, hb7⟩
              have HB7 := Lib.hid (below_next HB6.out hb7)
              have HRA7 := Lib.hid (HRA.out w7 v7 (below_next HST0.out.below HB7.out) hv7)
              obtain ⟨A7, c7, l7, A8, c8, l8, rfl, -, -⟩ := hv7
              clear HOF hb7
              go_wp2_with fail
              (with_reducible refine (HRA7.out).mono ?_)
              rintro e w8 ⟨rfl, hb8⟩
              have HB8 := Lib.hid (below_next HB7.out hb8)
              obtain ⟨p0, p1, k0, k1, z0, z1, hl0⟩ := HK.out w8 HB8.out
              clear HRA7 hb8
              go_wp2
              refine bodyPost_ret (v := .tuple #[.agg #[.string R1, .string R2], .int .i64 rc]) (by simp [results, Tryz.results36, go_sem, k0, k1]) rfl ⟨rfl, HFIN.out _ HB8.out _ _⟩
    · obtain ⟨hv, he⟩ := binV_bad (n := n) (k := k) (a := a) (b := b) (by rw [← hcc]; exact hc0)
      have t3 : (cc != 0) = true := by rw [bne_iff_ne]; exact hc0
      have HSH := Lib.hid (fun W => (show Calls Tryz.prog 82 #[.agg #[.string Sa, .string Sb], .func (.func 83) #[] #[]] W _ from jShort_bad .share Sa Sb a b W hSa hSb ha hb (by rw [← hcn, ← hcc]; exact hc0)))
      rw [← hcn, ← hcc] at HSH
      rw [hv, he, ← hcc, rat_none]
      clear hv he hcc hcn hSa hSb hc0 hin
      go_enter Tryz.func36, Tryz.ntmps36
      go_wp2_with fail
      rw [← hW0]
      clear hW0
      go_wp2_with fail
      (with_reducible refine (HIN.out _).mono ?_)
      rintro e wi ⟨rfl, hwi⟩
      have hwi' := hwi.symm
      subst hwi'
      go_wp2_with fail
      (with_reducible refine (HSH.out _).mono ?_)
      rintro e w1 ⟨rfl, hb1⟩
      obtain ⟨W2, hW2⟩ : ∃ W2, W2 = w1.alloc (.cells #[.bool false, .slice none 0 0, .slice none 0 0] 73) := ⟨_, rfl⟩
      have HB2 := Lib.hid (below_next hb1 (show Below w1.heap.size w1 W2 by rw [hW2]; exact (Below.refl _ w1).alloc (Nat.le_refl _) _))
      clear p0 p1 k0 k1 z0 z1 hl0 hb1
      obtain ⟨p0, p1, k0, k1, z0, z1, hl0⟩ := HK.out W2 HB2.out
      have o0 := k0
      have o1 := k1
      have o2 := z0
      have o3 := z1
      have o4 := hl0
      rw [hW2] at o0 o1 o2 o3 o4
      go_wp2
      rw [← hW2]
      refine bodyPost_ret (v := .tuple #[.agg #[.string ⟨#[]⟩, .string ⟨#[]⟩], .int .i64 cc]) (by simp [results, Tryz.results36, go_sem, k0, k1]) rfl ⟨rfl, HFIN.out _ HB2.out _ _⟩
end Go.Proofs.YtnpfdelklolchaaGreatDoor
