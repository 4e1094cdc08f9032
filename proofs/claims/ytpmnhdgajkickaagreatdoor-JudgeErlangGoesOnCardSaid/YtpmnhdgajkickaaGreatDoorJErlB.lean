/- Package judge: Erlang's first formula. -/
import Derived.Test.YtpmnhdgajkickaaGreatDoorJErl
import Derived.Test.YtpmnhdgajkickaaGreatDoorJShort
import Derived.Test.YtpmnhdgajkickaaGreatDoorJRatio
import Derived.Test.YtpmnhdgajkickaaGreatDoorErlV
import Derived.Test.YtpmnhdgajkickaaGreatDoorB25
namespace Go.Proofs.YtpmnhdgajkickaaGreatDoor
open Go Go.RowKit Go.Proofs

theorem jq_short {w : World} {A1 A2 : Option Addr} {c1 c2 : Nat} {l1 l2 : List Nat} {q : Rat} (h1 : NatR w A1 c1 l1 (frN q)) (h2 : NatR w A2 c2 l2 q.den) (h0 : frS q = false) (h3 : frN q ≤ 1000000) (h4 : q.den ≤ 1000000) : JQ w (.agg #[.bool false, .slice A1 l1.length c1, .slice A2 l2.length c2]) q 1 := by
  refine JQ.of ?_ (W64_gt _ (by omega)) (W64_gt _ (by omega))
  rw [h0]
  exact jf_mk h1 h2
set_option maxHeartbeats 8000000 in
set_option maxRecDepth 100000 in
theorem jBlockedP_any (Sa Sb : ByteArray) (a b : List UInt8) (n : Int) (w : World) (hSa : Sa.data.toList = a) (hSb : Sb.data.toList = b) (ha : Sa.size ≤ 9223372036854775800) (hb : Sb.size ≤ 9223372036854775800) (htab : Tab w.heap.size w) :
    Calls Tryz.prog 10 #[.int .i64 n, .agg #[.string Sa, .string Sb]] w fun e w' => e = .returned (.tuple #[ratOf (blkT n a b), .int .i64 (blkE n a b)]) ∧ Below w.heap.size w w' := by
  obtain ⟨W0, hW0⟩ : ∃ W0, W0 = (w.alloc (.cells #[.string Sa, .string Sb] 23)).alloc (.cells #[.string ⟨#[]⟩, .string ⟨#[]⟩] 23) := ⟨_, rfl⟩
  have HST0 := Lib.hid (show St w W0 [(w.heap.size, .cells #[.string Sa, .string Sb] 23 (0, 0)), (w.heap.size + 1, .cells #[.string ⟨#[]⟩, .string ⟨#[]⟩] 23 (0, 0))] by rw [hW0]; exact ((St.start w).alloc _ _ rfl).alloc _ _ (by simp))
  have HFIN := Lib.hid (show ∀ W, Below W0.heap.size W0 W → ∀ x y, Below w.heap.size w ((W.setCell ⟨w.heap.size + 1, 0, none⟩ x).setCell ⟨w.heap.size + 1, 1, none⟩ y) from fun W hb x y => ((below_next HST0.out.below hb).setCell (p := ⟨w.heap.size + 1, 0, none⟩) (by simp) x).setCell (p := ⟨w.heap.size + 1, 1, none⟩) (by simp) y)
  have HK := Lib.hid (show ∀ X, Below W0.heap.size W0 X → X.cell? ⟨w.heap.size, 0, none⟩ = some (.string Sa) ∧ X.cell? ⟨w.heap.size, 1, none⟩ = some (.string Sb) ∧ X.cell? ⟨w.heap.size + 1, 0, none⟩ = some (.string ⟨#[]⟩) ∧ X.cell? ⟨w.heap.size + 1, 1, none⟩ = some (.string ⟨#[]⟩) ∧ X.frozen? ⟨w.heap.size + 1, 0, none⟩ = false ∧ X.frozen? ⟨w.heap.size + 1, 1, none⟩ = false ∧ w.heap.size + 1 < X.heap.size from fun X hX => ⟨(HST0.out.call hX).cell 0 0 rfl rfl, (HST0.out.call hX).cell 0 1 rfl rfl, (HST0.out.call hX).cell 1 0 rfl rfl, (HST0.out.call hX).cell 1 1 rfl rfl, (HST0.out.call hX).frozen 1 0 rfl, (HST0.out.call hX).frozen 1 1 rfl, (HST0.out.call hX).lt 1 rfl⟩)
  obtain ⟨p0, p1, k0, k1, z0, z1, hl0⟩ := HK.out W0 (Below.refl _ _)
  have HIN := Lib.hid (fun W => jInside_any n 0 50 W)
  by_cases hn : n < 0 ∨ 50 < n
  · have hc : eC n 0 a b = 9 := eC_range hn
    obtain ⟨hv, he⟩ := blk_bad (c := n) (a := a) (b := b) (by rw [hc]; decide)
    rw [hv, he, hc, rat_none]
    have hin : (decide (0 ≤ n) && decide (n ≤ 50)) = false := by
      rw [Bool.eq_false_iff]; simp; omega
    rw [hin] at HIN
    clear hv he hc hSa hSb hin
    go_enter Tryz.func10, Tryz.ntmps10
    go_wp2_with fail
    rw [← hW0]
    clear hW0
    go_wp2_with fail
    (with_reducible refine (HIN.out _).mono ?_)
    rintro e wi ⟨rfl, hwi⟩
    have hwi' := hwi.symm
    subst hwi'
    go_wp2
    refine bodyPost_ret (v := .tuple #[.agg #[.string ⟨#[]⟩, .string ⟨#[]⟩], .int .i64 9]) (by simp [results, Tryz.results10, go_sem, k0, k1, hl0]) rfl ⟨rfl, HFIN.out _ (Below.refl _ _) _ _⟩
  · have hin : (decide (0 ≤ n) && decide (n ≤ 50)) = true := by
      rw [Bool.and_eq_true, decide_eq_true_eq, decide_eq_true_eq]; omega
    rw [hin] at HIN
    have hcn : eC n 0 a b = shC .positive a b := eC_ok hn
    by_cases hsh : shC .positive a b = 0
    · obtain ⟨hv, he⟩ := blk_ok (c := n) (a := a) (b := b) (by rw [hcn]; exact hsh)
      rw [hv, he]
      have HSH := Lib.hid (fun W => (show Calls Tryz.prog 30 #[.agg #[.string Sa, .string Sb], .func (.func 45) #[] #[]] W _ from jShort_good .positive Sa Sb a b W hSa hSb ha hb hsh))
      obtain ⟨s1, s2, s3, s4⟩ := posit_parts hsh
      obtain ⟨q, hq⟩ : ∃ q, q = ratX a b := ⟨_, rfl⟩
      rw [← hq] at HSH s1 s2 s3 s4 ⊢
      obtain ⟨N, rfl⟩ : ∃ N : Nat, n = N := ⟨n.toNat, by omega⟩
      rw [Int.toNat_natCast]
      have hN : N ≤ 50 := by omega
      have HMK := Lib.hid (fun (W : World) A1 c1 l1 A2 c2 l2 (h1 : NatR W A1 c1 l1 (frN q)) (h2 : NatR W A2 c2 l2 q.den) => jq_short h1 h2 s1 s3 s4)
      have HBL := Lib.hid (fun v W (hu : JQ W v q 1) => jBlocked_any N v q W hN hu s1 s2 s3 s4)
      obtain ⟨r, hr⟩ : ∃ r, r = erB q N := ⟨_, rfl⟩
      rw [← hr] at HBL ⊢
      -- the ratio of r
      have hrt : ratOf (rtT r) = .agg #[.string ⟨(rtT r).1.toArray⟩, .string ⟨(rtT r).2.toArray⟩] := rfl
      obtain ⟨R1, hR1⟩ : ∃ R : ByteArray, R = ⟨(rtT r).1.toArray⟩ := ⟨_, rfl⟩
      obtain ⟨R2, hR2⟩ : ∃ R : ByteArray, R = ⟨(rtT r).2.toArray⟩ := ⟨_, rfl⟩
      rw [← hR1, ← hR2] at hrt
      obtain ⟨rc, hrc⟩ : ∃ rc, rc = rtC r := ⟨_, rfl⟩
      have HRA := Lib.hid (fun W v (hb : Below w.heap.size w W) (hv : JQ W v r 101) => jRatioQ 101 v r W (by omega) hv ((htab.on hb).mono hb.size))
      rw [hrt] at HRA
      rw [← hrc] at HRA ⊢
      rw [hrt]
      clear hv he hcn hsh hSa hSb hq hr hrt hR1 hR2 hrc hin s1 s2 s3 s4
      go_enter Tryz.func10, Tryz.ntmps10
      go_wp2_with fail
      rw [← hW0]
      clear hW0
      go_wp2_with fail
      (with_reducible refine (HIN.out _).mono ?_)
      rintro e wi ⟨rfl, hwi⟩
      have hwi' := hwi.symm
      subst hwi'
      go_wp2_with fail
      (with_reducible refine (HSH.out _).mono ?_)
      rintro e w1 ⟨A1, c1, l1, A2, c2, l2, rfl, h1, h2, hb1⟩
      obtain ⟨W2, hW2⟩ : ∃ W2, W2 = w1.alloc (.cells #[.bool false, .slice A1 l1.length c1, .slice A2 l2.length c2] 53) := ⟨_, rfl⟩
      have hb12 : Below w1.heap.size w1 W2 := by rw [hW2]; exact (Below.refl _ w1).alloc (Nat.le_refl _) _
      have HQ2 := Lib.hid (HMK.out W2 _ _ _ _ _ _ (h1.on hb12) (h2.on hb12))
      have HBX := Lib.hid (show W2.heap[w1.heap.size]? = some (.cells #[.bool false, .slice A1 l1.length c1, .slice A2 l2.length c2] 53 (0, 0)) by rw [hW2]; exact alloc_at _ _ _ rfl)
      have HB2 := Lib.hid (below_next hb1 hb12)
      clear p0 p1 k0 k1 z0 z1 hl0 h1 h2 hb1 hb12
      obtain ⟨p0, p1, k0, k1, z0, z1, hl0⟩ := HK.out W2 HB2.out
      go_wp2_with fail
      rw [← hW2]
      clear hW2
      (with_reducible refine (HBL.out _ _ HQ2.out).mono ?_)
      rintro e w3 ⟨v3, rfl, hv3, hb3⟩
      have HB3 := Lib.hid (below_next HB2.out hb3)
      have HRA3 := Lib.hid (HRA.out w3 v3 (below_next HST0.out.below HB3.out) hv3)
      obtain ⟨b7, A7, c7, l7, A8, c8, l8, rfl⟩ := hv3.shape
      clear p0 p1 k0 k1 z0 z1 hl0 hb3 hv3
      go_wp2_with fail
      (with_reducible refine (HRA3.out).mono ?_)
      rintro e w4 ⟨rfl, hb4⟩
      have HB4 := Lib.hid (below_next HB3.out hb4)
      obtain ⟨p0, p1, k0, k1, z0, z1, hl0⟩ := HK.out w4 HB4.out
      go_wp2
      refine bodyPost_ret (v := .tuple #[.agg #[.string R1, .string R2], .int .i64 rc]) (by simp [results, Tryz.results10, go_sem, k0, k1, hl0]) rfl ⟨rfl, HFIN.out _ HB4.out _ _⟩
    · obtain ⟨hv, he⟩ := blk_bad (c := n) (a := a) (b := b) (by rw [hcn]; exact hsh)
      rw [hv, he, hcn, rat_none]
      have HSH := Lib.hid (fun W => (show Calls Tryz.prog 30 #[.agg #[.string Sa, .string Sb], .func (.func 45) #[] #[]] W _ from jShort_bad .positive Sa Sb a b W hSa hSb ha hb hsh))
      obtain ⟨cc, hcc⟩ : ∃ cc, cc = shC .positive a b := ⟨_, rfl⟩
      rw [← hcc] at HSH hsh ⊢
      have t2 : (cc != 0) = true := by rw [bne_iff_ne]; exact hsh
      clear hv he hcn hsh hSa hSb hcc hin ha hb
      go_enter Tryz.func10, Tryz.ntmps10
      go_wp2_with fail
      rw [← hW0]
      clear hW0
      go_wp2_with fail
      (with_reducible refine (HIN.out _).mono ?_)
      rintro e wi ⟨rfl, hwi⟩
      have hwi' := hwi.symm
      subst hwi'
      go_wp2_with fail
      (with_reducible refine (HSH.out _).mono ?_)
      rintro e w1 ⟨rfl, hb1⟩
      obtain ⟨W2, hW2⟩ : ∃ W2, W2 = w1.alloc (.cells #[.bool false, .slice none 0 0, .slice none 0 0] 53) := ⟨_, rfl⟩
      have hb12 : Below w1.heap.size w1 W2 := by rw [hW2]; exact (Below.refl _ w1).alloc (Nat.le_refl _) _
      have HB2 := Lib.hid (below_next hb1 hb12)
      clear p0 p1 k0 k1 z0 z1 hl0 hb12
      obtain ⟨p0, p1, k0, k1, z0, z1, hl0⟩ := HK.out W2 HB2.out
      have o1 := k0
      have o2 := k1
      have o3 := z0
      have o4 := z1
      have o5 := hl0
      rw [hW2] at o1 o2 o3 o4 o5
      clear hb1
      go_wp2
      rw [← hW2]
      refine bodyPost_ret (v := .tuple #[.agg #[.string ⟨#[]⟩, .string ⟨#[]⟩], .int .i64 cc]) (by simp [results, Tryz.results10, go_sem, k0, k1, hl0]) rfl ⟨rfl, HFIN.out _ HB2.out _ _⟩
end Go.Proofs.YtpmnhdgajkickaaGreatDoor
