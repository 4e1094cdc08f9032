import Derived.Test.YtfeicfohahfhiaaGreatDoorJBin
import Derived.Test.YtfeicfohahfhiaaGreatDoorG42
import Derived.Test.YtfeicfohahfhiaaGreatDoorJRead
import Derived.Test.YtfeicfohahfhiaaGreatDoorR10Sh
/- Package dynamometerlaw10: same, halves. -/
namespace Go.Proofs.YtfeicfohahfhiaaGreatDoor
open Go Go.RowKit Go.Proofs

set_option maxHeartbeats 8000000 in
set_option maxRecDepth 100000 in
theorem same_any (Sa Sb : ByteArray) (e : Int) (w : World) :
    Calls Tryz.prog 8 #[.agg #[.string Sa, .string Sb], .int .i64 e, .agg #[.string Sa, .string Sb], .int .i64 e] w fun e w' => e = .returned (.bool true) ∧ Below w.heap.size w w' := by
  have HF := Lib.hid (fun o p => (show Below w.heap.size w ((w.alloc o).alloc p) from two_on o p))
  go_enter Tryz.func8, Tryz.ntmps8
  go_wp2
  go_ret
  exact ⟨by rfl, HF.out _ _⟩
set_option maxHeartbeats 8000000 in
set_option maxRecDepth 100000 in
theorem halves_any (w : World) (htab : Tab w.heap.size w) :
    Calls Tryz.prog 9 #[] w fun e w' => e = .returned (.bool true) ∧ Below w.heap.size w w' := by
  have HB := Lib.hid (jBinomial_any ⟨#[49]⟩ ⟨#[50]⟩ [49] [50] 3 1 w rfl rfl (by decide) (by decide) (by omega) (by omega) htab)
  rw [bin_half.1, bin_half.2] at HB
  rw [show ratOf ([49], [50]) = .agg #[.string ⟨#[49]⟩, .string ⟨#[50]⟩] from rfl] at HB
  have HF := Lib.hid (fun W (hb : Below w.heap.size w W) o => (show Below w.heap.size w (W.alloc o) from hb.alloc hb.size _))
  go_enter Tryz.func9, Tryz.ntmps9
  go_wp2_with fail
  (with_reducible refine (HB.out).mono ?_)
  rintro e w1 ⟨rfl, hb1⟩
  have HB1 := Lib.hid hb1
  clear hb1
  go_wp2
  go_ret
  exact ⟨by rfl, HF.out _ HB1.out _⟩
end Go.Proofs.YtfeicfohahfhiaaGreatDoor

/- Ratios: CheckRatio and Compare of package judge, Compare of the reference. -/
namespace Go.Proofs.YtfeicfohahfhiaaGreatDoor
open Go Go.RowKit Go.Proofs

theorem jRead_bad (Sa Sb : ByteArray) (a b : List UInt8) (w : World) (hSa : Sa.data.toList = a) (hSb : Sb.data.toList = b) (ha : Sa.size ≤ 9223372036854775800) (hb : Sb.size ≤ 9223372036854775800) (hc : cRt a b ≠ 0) :
    Calls Tryz.prog 38 #[.agg #[.string Sa, .string Sb]] w fun e w' => e = .returned (.tuple #[.agg #[.bool false, .slice none 0 0, .slice none 0 0], .int .i64 (cRt a b)]) ∧ Below w.heap.size w w' :=
  (jRead_any Sa Sb a b w hSa hSb ha hb).mono fun e w' ⟨v, h1, _, h3, h4⟩ => ⟨by rw [h1, h3 hc], h4⟩
theorem jRead_good (Sa Sb : ByteArray) (a b : List UInt8) (w : World) (hSa : Sa.data.toList = a) (hSb : Sb.data.toList = b) (ha : Sa.size ≤ 9223372036854775800) (hb : Sb.size ≤ 9223372036854775800) (hc : cRt a b = 0) :
    Calls Tryz.prog 38 #[.agg #[.string Sa, .string Sb]] w fun e w' => ∃ A1 c1 l1 A2 c2 l2, e = .returned (.tuple #[.agg #[.bool (sgB a), .slice A1 (l1 : List Nat).length c1, .slice A2 (l2 : List Nat).length c2], .int .i64 0]) ∧ NatR w' A1 c1 l1 (dgV (unsg a)) ∧ NatR w' A2 c2 l2 (dgV b) ∧ Below w.heap.size w w' :=
  (jRead_any Sa Sb a b w hSa hSb ha hb).mono fun e w' ⟨v, h1, h2, _, h4⟩ => by
    obtain ⟨A1, c1, l1, A2, c2, l2, rfl, n1, n2⟩ := h2 hc
    exact ⟨A1, c1, l1, A2, c2, l2, by rw [h1, hc], n1, n2, h4⟩
def cmpV (a b c d : List UInt8) : Int := if cRt a b ≠ 0 then 0 else if cRt c d ≠ 0 then 0 else ordQ (ratX a b) (ratX c d)
def cmpE (a b c d : List UInt8) : Int := if cRt a b ≠ 0 then cRt a b else cRt c d
theorem cmp_bad {a b c d : List UInt8} (h : cRt a b ≠ 0) : cmpV a b c d = 0 ∧ cmpE a b c d = cRt a b := by unfold cmpV cmpE; rw [if_pos h, if_pos h]; exact ⟨rfl, rfl⟩
theorem cmp_bad2 {a b c d : List UInt8} (h : cRt a b = 0) (h2 : cRt c d ≠ 0) : cmpV a b c d = 0 ∧ cmpE a b c d = cRt c d := by unfold cmpV cmpE; rw [if_neg (by omega), if_pos h2, if_neg (by omega)]; exact ⟨rfl, rfl⟩
theorem cmp_good {a b c d : List UInt8} (h : cRt a b = 0) (h2 : cRt c d = 0) : cmpV a b c d = ordQ (ratX a b) (ratX c d) ∧ cmpE a b c d = 0 := by unfold cmpV cmpE; rw [if_neg (by omega), if_neg (by omega), if_neg (by omega)]; exact ⟨rfl, h2⟩
theorem rt_W {a b : List UInt8} (h : cRt a b = 0) : dgV (unsg a) < W64 ^ 2000 ∧ dgV b < W64 ^ 2000 ∧ 0 < dgV b := by
  obtain ⟨h1, h2, h3, h4, h5, h6, h7⟩ := cRt_zero h
  exact ⟨dgV_W (E := 2000) (dgB_digits h1).2.1 h5, dgV_W (E := 2000) (dgB_digits h2).2.1 h6, dgV_pos h2 h3⟩
set_option maxHeartbeats 8000000 in
set_option maxRecDepth 100000 in
theorem jCheck_any (Sa Sb : ByteArray) (a b : List UInt8) (w : World) (hSa : Sa.data.toList = a) (hSb : Sb.data.toList = b) (ha : Sa.size ≤ 9223372036854775800) (hb : Sb.size ≤ 9223372036854775800) :
    Calls Tryz.prog 14 #[.agg #[.string Sa, .string Sb]] w fun e w' => e = .returned (.int .i64 (cRt a b)) ∧ Below w.heap.size w w' := by
  obtain ⟨W0, hW0⟩ : ∃ W0, W0 = w.alloc (.cells #[.string Sa, .string Sb] 23) := ⟨_, rfl⟩
  have HST0 := Lib.hid (show St w W0 [(w.heap.size, .cells #[.string Sa, .string Sb] 23 (0, 0))] by rw [hW0]; exact (St.start w).alloc _ _ rfl)
  have HR := Lib.hid (fun W => jRead_any Sa Sb a b W hSa hSb ha hb)
  have HF := Lib.hid (fun W (hb : Below W0.heap.size W0 W) o => (show Below w.heap.size w (W.alloc o) from (below_next HST0.out.below hb).alloc (below_next HST0.out.below hb).size _))
  have p0 := HST0.out.cell 0 0 rfl rfl
  have p1 := HST0.out.cell 0 1 rfl rfl
  obtain ⟨cc, hcc⟩ : ∃ cc, cc = cRt a b := ⟨_, rfl⟩
  unfold RdPost at HR
  rw [← hcc] at HR ⊢
  clear hcc hSa hSb
  go_enter Tryz.func14, Tryz.ntmps14
  go_wp2_with fail
  rw [← hW0]
  clear hW0
  go_wp2_with fail
  (with_reducible refine (HR.out _).mono ?_)
  rintro e w1 ⟨v, rfl, h1, h2, hb1⟩
  by_cases hc : cc = 0
  · subst hc
    obtain ⟨A1, c1, l1, A2, c2, l2, rfl, -, -⟩ := h1 rfl
    clear h1 h2
    go_wp2
    go_ret
    exact ⟨by rfl, HF.out _ hb1 _⟩
  · obtain rfl := h2 hc
    clear h1 h2
    go_wp2
    go_ret
    exact ⟨by rfl, HF.out _ hb1 _⟩
set_option maxHeartbeats 8000000 in
set_option maxRecDepth 100000 in
theorem jCmp_any (Sa Sb Sc Sd : ByteArray) (a b c d : List UInt8) (w : World) (hSa : Sa.data.toList = a) (hSb : Sb.data.toList = b) (hSc : Sc.data.toList = c) (hSd : Sd.data.toList = d) (ha : Sa.size ≤ 9223372036854775800) (hb : Sb.size ≤ 9223372036854775800) (hc : Sc.size ≤ 9223372036854775800) (hd : Sd.size ≤ 9223372036854775800) :
    Calls Tryz.prog 12 #[.agg #[.string Sa, .string Sb], .agg #[.string Sc, .string Sd]] w fun e w' => e = .returned (.tuple #[.int .i64 (cmpV a b c d), .int .i64 (cmpE a b c d)]) ∧ Below w.heap.size w w' := by
  obtain ⟨W0, hW0⟩ : ∃ W0, W0 = (w.alloc (.cells #[.string Sa, .string Sb] 23)).alloc (.cells #[.string Sc, .string Sd] 23) := ⟨_, rfl⟩
  have HST0 := Lib.hid (show St w W0 [(w.heap.size, .cells #[.string Sa, .string Sb] 23 (0, 0)), (w.heap.size + 1, .cells #[.string Sc, .string Sd] 23 (0, 0))] by rw [hW0]; exact ((St.start w).alloc _ _ rfl).alloc _ _ (by simp))
  have HK := Lib.hid (show ∀ X, Below W0.heap.size W0 X → X.cell? ⟨w.heap.size, 0, none⟩ = some (.string Sa) ∧ X.cell? ⟨w.heap.size, 1, none⟩ = some (.string Sb) ∧ X.cell? ⟨w.heap.size + 1, 0, none⟩ = some (.string Sc) ∧ X.cell? ⟨w.heap.size + 1, 1, none⟩ = some (.string Sd) from fun X hX => ⟨(HST0.out.call hX).cell 0 0 rfl rfl, (HST0.out.call hX).cell 0 1 rfl rfl, (HST0.out.call hX).cell 1 0 rfl rfl, (HST0.out.call hX).cell 1 1 rfl rfl⟩)
  obtain ⟨p0, p1, p2, p3⟩ := HK.out W0 (Below.refl _ _)
  by_cases h1 : cRt a b = 0
  · have HR1 := Lib.hid (fun W => jRead_good Sa Sb a b W hSa hSb ha hb h1)
    have w1_ := rt_W h1
    by_cases h2 : cRt c d = 0
    · have HR2 := Lib.hid (fun W => jRead_good Sc Sd c d W hSc hSd hc hd h2)
      have w2_ := rt_W h2
      have HC := Lib.hid (fun W u v (hu : JF W u (sgB a) (dgV (unsg a)) (dgV b)) (hv : JF W v (sgB c) (dgV (unsg c)) (dgV d)) => jCompare_any 2000 u v (sgB a) (sgB c) (dgV (unsg a)) (dgV b) (dgV (unsg c)) (dgV d) W (by omega) hu hv w1_.1 w1_.2.1 w2_.1 w2_.2.1 w1_.2.2 w2_.2.2)
      obtain ⟨e1, e2⟩ := cmp_good h1 h2
      rw [e1, e2]
      unfold ratX
      obtain ⟨ov, hov⟩ : ∃ ov, ov = ordQ (mkRat (sg (sgB a) (dgV (unsg a))) (dgV b)) (mkRat (sg (sgB c) (dgV (unsg c))) (dgV d)) := ⟨_, rfl⟩
      rw [← hov] at HC ⊢
      clear h1 h2 e1 e2 w1_ w2_ hov hSa hSb hSc hSd
      go_enter Tryz.func12, Tryz.ntmps12
      go_wp2_with fail
      rw [← hW0]
      clear hW0
      go_wp2_with fail
      (with_reducible refine (HR1.out _).mono ?_)
      rintro e w1 ⟨A1, c1, l1, A2, c2, l2, rfl, h1, h2, hb1⟩
      obtain ⟨W2, hW2⟩ : ∃ W2, W2 = w1.alloc (.cells #[.bool (sgB a), .slice A1 l1.length c1, .slice A2 l2.length c2] 41) := ⟨_, rfl⟩
      have hb12 : Below w1.heap.size w1 W2 := by rw [hW2]; exact (Below.refl _ w1).alloc (Nat.le_refl _) _
      have HJ2 := Lib.hid (show JF W2 (.agg #[.bool (sgB a), .slice A1 l1.length c1, .slice A2 l2.length c2]) (sgB a) (dgV (unsg a)) (dgV b) from jf_mk (h1.on hb12) (h2.on hb12))
      have HBX := Lib.hid (show W2.heap[w1.heap.size]? = some (.cells #[.bool (sgB a), .slice A1 l1.length c1, .slice A2 l2.length c2] 41 (0, 0)) by rw [hW2]; exact alloc_at _ _ _ rfl)
      have HB2 := Lib.hid (below_next hb1 hb12)
      clear p0 p1 p2 p3 h1 h2 hb1 hb12
      obtain ⟨p0, p1, p2, p3⟩ := HK.out W2 HB2.out
      have o2 := p2
      have o3 := p3
      rw [hW2] at o2 o3
      clear p0 p1 p2 p3
      go_wp2_with fail
      rw [← hW2]
      clear hW2 o2 o3
      (with_reducible refine (HR2.out _).mono ?_)
      rintro e w3 ⟨A3, c3, l3, A4, c4, l4, rfl, h3, h4, hb3⟩
      obtain ⟨W4, hW4⟩ : ∃ W4, W4 = w3.alloc (.cells #[.bool (sgB c), .slice A3 l3.length c3, .slice A4 l4.length c4] 41) := ⟨_, rfl⟩
      have hb34 : Below w3.heap.size w3 W4 := by rw [hW4]; exact (Below.refl _ w3).alloc (Nat.le_refl _) _
      have HJ4 := Lib.hid (show JF W4 (.agg #[.bool (sgB c), .slice A3 l3.length c3, .slice A4 l4.length c4]) (sgB c) (dgV (unsg c)) (dgV d) from jf_mk (h3.on hb34) (h4.on hb34))
      have hb24 := below_next hb3 hb34
      have HB4 := Lib.hid (below_next HB2.out hb24)
      have HJ24 := Lib.hid (HJ2.out.on hb24)
      have e := (hb24.block _ (heap_lt HBX.out)).trans HBX.out
      have o0 : W4.cell? ⟨w1.heap.size, 0, none⟩ = some (.bool (sgB a)) := by rw [cellsAt e]; rfl
      have o1 : W4.cell? ⟨w1.heap.size, 1, none⟩ = some (.slice A1 l1.length c1) := by rw [cellsAt e]; rfl
      have o2 : W4.cell? ⟨w1.heap.size, 2, none⟩ = some (.slice A2 l2.length c2) := by rw [cellsAt e]; rfl
      rw [hW4] at o0 o1 o2
      clear h3 h4 hb3 hb34 hb24 e
      go_wp2_with fail
      rw [← hW4]
      clear hW4 o0 o1 o2
      (with_reducible refine (HC.out _ _ _ HJ24.out HJ4.out).mono ?_)
      rintro e w5 ⟨rfl, hb5⟩
      go_wp2
      go_ret2
      exact ⟨by rfl, below_next HST0.out.below (below_next HB4.out hb5)⟩
    · have HR2 := Lib.hid (fun W => jRead_bad Sc Sd c d W hSc hSd hc hd h2)
      obtain ⟨e1, e2⟩ := cmp_bad2 h1 h2
      rw [e1, e2]
      obtain ⟨cc, hcc⟩ : ∃ cc, cc = cRt c d := ⟨_, rfl⟩
      rw [← hcc] at HR2 h2 ⊢
      have t2 : (cc != 0) = true := by rw [bne_iff_ne]; exact h2
      clear h1 h2 e1 e2 w1_ hcc hSa hSb hSc hSd
      go_enter Tryz.func12, Tryz.ntmps12
      go_wp2_with fail
      rw [← hW0]
      clear hW0
      go_wp2_with fail
      (with_reducible refine (HR1.out _).mono ?_)
      rintro e w1 ⟨A1, c1, l1, A2, c2, l2, rfl, h1, h2, hb1⟩
      obtain ⟨W2, hW2⟩ : ∃ W2, W2 = w1.alloc (.cells #[.bool (sgB a), .slice A1 l1.length c1, .slice A2 l2.length c2] 41) := ⟨_, rfl⟩
      have hb12 : Below w1.heap.size w1 W2 := by rw [hW2]; exact (Below.refl _ w1).alloc (Nat.le_refl _) _
      have HJ2 := Lib.hid (show JF W2 (.agg #[.bool (sgB a), .slice A1 l1.length c1, .slice A2 l2.length c2]) (sgB a) (dgV (unsg a)) (dgV b) from jf_mk (h1.on hb12) (h2.on hb12))
      have HBX := Lib.hid (show W2.heap[w1.heap.size]? = some (.cells #[.bool (sgB a), .slice A1 l1.length c1, .slice A2 l2.length c2] 41 (0, 0)) by rw [hW2]; exact alloc_at _ _ _ rfl)
      have HB2 := Lib.hid (below_next hb1 hb12)
      clear p0 p1 p2 p3 h1 h2 hb1 hb12
      obtain ⟨p0, p1, p2, p3⟩ := HK.out W2 HB2.out
      have o2 := p2
      have o3 := p3
      rw [hW2] at o2 o3
      clear p0 p1 p2 p3
      go_wp2_with fail
      rw [← hW2]
      clear hW2 o2 o3
      (with_reducible refine (HR2.out _).mono ?_)
      rintro e w3 ⟨rfl, hb3⟩
      have HB3 := Lib.hid (fun o => ((below_next HST0.out.below (below_next HB2.out hb3)).alloc (below_next HST0.out.below (below_next HB2.out hb3)).size o))
      clear hb3
      go_wp2
      go_ret2
      exact ⟨by rfl, HB3.out _⟩
  · have HR1 := Lib.hid (fun W => jRead_bad Sa Sb a b W hSa hSb ha hb h1)
    obtain ⟨e1, e2⟩ := cmp_bad (c := c) (d := d) h1
    rw [e1, e2]
    obtain ⟨cc, hcc⟩ : ∃ cc, cc = cRt a b := ⟨_, rfl⟩
    rw [← hcc] at HR1 h1 ⊢
    have t2 : (cc != 0) = true := by rw [bne_iff_ne]; exact h1
    clear h1 e1 e2 hcc hSa hSb hSc hSd
    go_enter Tryz.func12, Tryz.ntmps12
    go_wp2_with fail
    rw [← hW0]
    clear hW0
    go_wp2_with fail
    (with_reducible refine (HR1.out _).mono ?_)
    rintro e w1 ⟨rfl, hb1⟩
    have HB3 := Lib.hid (fun o => ((below_next HST0.out.below hb1).alloc (below_next HST0.out.below hb1).size o))
    clear hb1
    go_wp2
    go_ret2
    exact ⟨by rfl, HB3.out _⟩
set_option maxHeartbeats 8000000 in
set_option maxRecDepth 100000 in
theorem rCmp_any (Sa Sb Sc Sd : ByteArray) (a b c d : List UInt8) (w : World) (hSa : Sa.data.toList = a) (hSb : Sb.data.toList = b) (hSc : Sc.data.toList = c) (hSd : Sd.data.toList = d) (ha : Sa.size ≤ 9223372036854775800) (hb : Sb.size ≤ 9223372036854775800) (hc : Sc.size ≤ 9223372036854775800) (hd : Sd.size ≤ 9223372036854775800) :
    Calls Tryz.prog 13 #[.agg #[.string Sa, .string Sb], .agg #[.string Sc, .string Sd]] w fun e w' => e = .returned (.tuple #[.int .i64 (cmpV a b c d), .int .i64 (cmpE a b c d)]) ∧ Below w.heap.size w w' := by
  obtain ⟨W0, hW0⟩ : ∃ W0, W0 = (w.alloc (.cells #[.string Sa, .string Sb] 23)).alloc (.cells #[.string Sc, .string Sd] 23) := ⟨_, rfl⟩
  have HST0 := Lib.hid (show St w W0 [(w.heap.size, .cells #[.string Sa, .string Sb] 23 (0, 0)), (w.heap.size + 1, .cells #[.string Sc, .string Sd] 23 (0, 0))] by rw [hW0]; exact ((St.start w).alloc _ _ rfl).alloc _ _ (by simp))
  have HK := Lib.hid (show ∀ X, Below W0.heap.size W0 X → X.cell? ⟨w.heap.size, 0, none⟩ = some (.string Sa) ∧ X.cell? ⟨w.heap.size, 1, none⟩ = some (.string Sb) ∧ X.cell? ⟨w.heap.size + 1, 0, none⟩ = some (.string Sc) ∧ X.cell? ⟨w.heap.size + 1, 1, none⟩ = some (.string Sd) from fun X hX => ⟨(HST0.out.call hX).cell 0 0 rfl rfl, (HST0.out.call hX).cell 0 1 rfl rfl, (HST0.out.call hX).cell 1 0 rfl rfl, (HST0.out.call hX).cell 1 1 rfl rfl⟩)
  obtain ⟨p0, p1, p2, p3⟩ := HK.out W0 (Below.refl _ _)
  have HC1 := Lib.hid (fun W => rChk_any Sa Sb a b W hSa hSb ha hb)
  have HC2 := Lib.hid (fun W => rChk_any Sc Sd c d W hSc hSd hc hd)
  obtain ⟨c1, hc1⟩ : ∃ cc, cc = cRt a b := ⟨_, rfl⟩
  obtain ⟨c2, hc2⟩ : ∃ cc, cc = cRt c d := ⟨_, rfl⟩
  rw [← hc1] at HC1
  rw [← hc2] at HC2
  by_cases h1 : c1 = 0
  · rw [h1] at HC1 hc1
    clear h1
    by_cases h2 : c2 = 0
    · rw [h2] at HC2 hc2
      clear h2
      have HF1 := Lib.hid (fun W => rFrom_any Sa Sb a b W hSa hSb hc1.symm)
      have HF2 := Lib.hid (fun W => rFrom_any Sc Sd c d W hSc hSd hc2.symm)
      have z1 := ratX_sz (E := 2000) hc1.symm (Nat.le_refl _)
      have z2 := ratX_sz (E := 2000) hc2.symm (Nat.le_refl _)
      obtain ⟨e1, e2⟩ := cmp_good hc1.symm hc2.symm
      rw [e1, e2]
      obtain ⟨q1, hq1⟩ : ∃ q, q = ratX a b := ⟨_, rfl⟩
      obtain ⟨q2, hq2⟩ : ∃ q, q = ratX c d := ⟨_, rfl⟩
      rw [← hq1] at HF1 z1 ⊢
      rw [← hq2] at HF2 z2 ⊢
      have HO := Lib.hid (fun W u v (hu : FracR W u q1) (hv : FracR W v q2) => rOrder_any 2000 u v q1 q2 W (by omega) hu hv z1 z2)
      obtain ⟨ov, hov⟩ : ∃ ov, ov = ordQ q1 q2 := ⟨_, rfl⟩
      rw [← hov] at HO ⊢
      clear e1 e2 z1 z2 hq1 hq2 hov hc1 hc2 hSa hSb hSc hSd
      go_enter Tryz.func13, Tryz.ntmps13
      go_wp2_with fail
      rw [← hW0]
      clear hW0
      go_wp2_with fail
      (with_reducible refine (HC1.out _).mono ?_)
      rintro e w1 ⟨rfl, hb1⟩
      have HB1 := Lib.hid hb1
      clear p0 p1 p2 p3
      obtain ⟨p0, p1, p2, p3⟩ := HK.out w1 hb1
      clear hb1
      go_wp2_with fail
      (with_reducible refine (HC2.out _).mono ?_)
      rintro e w2 ⟨rfl, hb2⟩
      have HB2 := Lib.hid (below_next HB1.out hb2)
      clear p0 p1 p2 p3 hb2
      have HKS := Lib.hid (show ∀ X, Below w2.heap.size w2 X → (fun X => Below w2.heap.size w2 X ∧ X.cell? ⟨w.heap.size, 0, none⟩ = some (.string Sa) ∧ X.cell? ⟨w.heap.size, 1, none⟩ = some (.string Sb) ∧ X.cell? ⟨w.heap.size + 1, 0, none⟩ = some (.string Sc) ∧ X.cell? ⟨w.heap.size + 1, 1, none⟩ = some (.string Sd)) X from fun X hX => ⟨hX, HK.out X (below_next HB2.out hX)⟩)
      obtain ⟨_, p0, p1, p2, p3⟩ := HKS.out w2 (Below.refl _ _)
      go_wp2_with fail
      go_region_held3 (fun X => Below w2.heap.size w2 X ∧ X.cell? ⟨w.heap.size, 0, none⟩ = some (.string Sa) ∧ X.cell? ⟨w.heap.size, 1, none⟩ = some (.string Sb) ∧ X.cell? ⟨w.heap.size + 1, 0, none⟩ = some (.string Sc) ∧ X.cell? ⟨w.heap.size + 1, 1, none⟩ = some (.string Sd))
        (first
          | exact HKS.out _ (Below.refl _ w2).drew
          | (go_split_ands; refine HKS.out _ (below_next ?_ hb5); assumption)
          | (go_split_ands; refine HKS.out _ (below_next ?_ hb6); assumption)
          | (go_split_ands; refine HKS.out _ (below_next ?_ hb7); assumption))
        (first
          | (go_at_call 26; (with_reducible refine (HF1.out _).mono ?_); rintro e w5 ⟨v5, rfl, hv5, hb5⟩)
          | (go_at_call 26; (with_reducible refine (HF2.out _).mono ?_); rintro e w6 ⟨v6, rfl, hv6, hb6⟩)
          | (go_at_call 40; (with_reducible refine (HO.out _ v5 v6 (hv5.on hb6) hv6).mono ?_); rintro e w7 ⟨rfl, hb7⟩))
      have HB7 := Lib.hid (show Below w2.heap.size w2 w7 by go_split_ands; assumption)
      clear hv5 hv6 hb5 hb6 hb7
      go_wp2
      go_ret2
      exact ⟨by rfl, below_next HST0.out.below (below_next HB2.out HB7.out)⟩
    · obtain ⟨e1, e2⟩ := cmp_bad2 hc1.symm (by rw [← hc2]; exact h2)
      rw [e1, e2, ← hc2]
      have t2 : (c2 != 0) = true := by rw [bne_iff_ne]; exact h2
      clear e1 e2 h2 hc1 hc2 hSa hSb hSc hSd
      go_enter Tryz.func13, Tryz.ntmps13
      go_wp2_with fail
      rw [← hW0]
      clear hW0
      go_wp2_with fail
      (with_reducible refine (HC1.out _).mono ?_)
      rintro e w1 ⟨rfl, hb1⟩
      have HB1 := Lib.hid hb1
      clear p0 p1 p2 p3
      obtain ⟨p0, p1, p2, p3⟩ := HK.out w1 hb1
      clear hb1
      go_wp2_with fail
      (with_reducible refine (HC2.out _).mono ?_)
      rintro e w2 ⟨rfl, hb2⟩
      go_wp2
      go_ret2
      exact ⟨by rfl, below_next HST0.out.below (below_next HB1.out hb2)⟩
  · obtain ⟨e1, e2⟩ := cmp_bad (c := c) (d := d) (by rw [← hc1]; exact h1)
    rw [e1, e2, ← hc1]
    have t2 : (c1 != 0) = true := by rw [bne_iff_ne]; exact h1
    clear e1 e2 h1 hc1 hc2 hSa hSb hSc hSd
    go_enter Tryz.func13, Tryz.ntmps13
    go_wp2_with fail
    rw [← hW0]
    clear hW0
    go_wp2_with fail
    (with_reducible refine (HC1.out _).mono ?_)
    rintro e w1 ⟨rfl, hb1⟩
    go_wp2
    go_ret2
    exact ⟨by rfl, below_next HST0.out.below hb1⟩
end Go.Proofs.YtfeicfohahfhiaaGreatDoor
