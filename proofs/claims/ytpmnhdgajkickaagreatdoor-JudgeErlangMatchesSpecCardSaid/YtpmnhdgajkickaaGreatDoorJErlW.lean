/- Package judge: Erlang's second formula. Printed by gen_jerlw.py. -/
import Derived.Test.YtpmnhdgajkickaaGreatDoorJErlB
import Derived.Test.YtpmnhdgajkickaaGreatDoorJWait
namespace Go.Proofs.YtpmnhdgajkickaaGreatDoor
open Go Go.RowKit Go.Proofs

set_option maxHeartbeats 8000000 in
set_option maxRecDepth 100000 in
theorem jWaitingP_any (Sa Sb : ByteArray) (a b : List UInt8) (n : Int) (w : World) (hSa : Sa.data.toList = a) (hSb : Sb.data.toList = b) (ha : Sa.size ≤ 9223372036854775800) (hb : Sb.size ≤ 9223372036854775800) (htab : Tab w.heap.size w) :
    Calls Tryz.prog 21 #[.int .i64 n, .agg #[.string Sa, .string Sb]] w fun e w' => e = .returned (.tuple #[ratOf (wtT n a b), .int .i64 (wtE n a b)]) ∧ Below w.heap.size w w' := by
  obtain ⟨W0, hW0⟩ : ∃ W0, W0 = (w.alloc (.cells #[.string Sa, .string Sb] 23)).alloc (.cells #[.string ⟨#[]⟩, .string ⟨#[]⟩] 23) := ⟨_, rfl⟩
  have HST0 := Lib.hid (show St w W0 [(w.heap.size, .cells #[.string Sa, .string Sb] 23 (0, 0)), (w.heap.size + 1, .cells #[.string ⟨#[]⟩, .string ⟨#[]⟩] 23 (0, 0))] by rw [hW0]; exact ((St.start w).alloc _ _ rfl).alloc _ _ (by simp))
  have HFIN := Lib.hid (show ∀ W, Below W0.heap.size W0 W → ∀ x y, Below w.heap.size w ((W.setCell ⟨w.heap.size + 1, 0, none⟩ x).setCell ⟨w.heap.size + 1, 1, none⟩ y) from fun W hb x y => ((below_next HST0.out.below hb).setCell (p := ⟨w.heap.size + 1, 0, none⟩) (by simp) x).setCell (p := ⟨w.heap.size + 1, 1, none⟩) (by simp) y)
  have HK := Lib.hid (show ∀ X, Below W0.heap.size W0 X → X.cell? ⟨w.heap.size, 0, none⟩ = some (.string Sa) ∧ X.cell? ⟨w.heap.size, 1, none⟩ = some (.string Sb) ∧ X.cell? ⟨w.heap.size + 1, 0, none⟩ = some (.string ⟨#[]⟩) ∧ X.cell? ⟨w.heap.size + 1, 1, none⟩ = some (.string ⟨#[]⟩) ∧ X.frozen? ⟨w.heap.size + 1, 0, none⟩ = false ∧ X.frozen? ⟨w.heap.size + 1, 1, none⟩ = false ∧ w.heap.size + 1 < X.heap.size from fun X hX => ⟨(HST0.out.call hX).cell 0 0 rfl rfl, (HST0.out.call hX).cell 0 1 rfl rfl, (HST0.out.call hX).cell 1 0 rfl rfl, (HST0.out.call hX).cell 1 1 rfl rfl, (HST0.out.call hX).frozen 1 0 rfl, (HST0.out.call hX).frozen 1 1 rfl, (HST0.out.call hX).lt 1 rfl⟩)
  obtain ⟨p0, p1, k0, k1, z0, z1, hl0⟩ := HK.out W0 (Below.refl _ _)
  have HIN := Lib.hid (fun W => jInside_any n 1 50 W)
  by_cases hn : n < 1 ∨ 50 < n
  · have hc : wtC n a b = 9 := by rw [wtC_one (by rw [eC_range hn]; decide), eC_range hn]
    obtain ⟨hv, he⟩ := wt_bad (c := n) (a := a) (b := b) (by rw [hc]; decide)
    rw [hv, he, hc, rat_none]
    have hin : (decide (1 ≤ n) && decide (n ≤ 50)) = false := by
      rw [Bool.eq_false_iff]; simp; omega
    rw [hin] at HIN
    clear hv he hc hSa hSb hin
    go_enter Tryz.func21, Tryz.ntmps21
    go_wp2_with fail
    rw [← hW0]
    clear hW0
    go_wp2_with fail
    (with_reducible refine (HIN.out _).mono ?_)
    rintro e wi ⟨rfl, hwi⟩
    have hwi' := hwi.symm
    subst hwi'
    go_wp2
    refine bodyPost_ret (v := .tuple #[.agg #[.string ⟨#[]⟩, .string ⟨#[]⟩], .int .i64 9]) (by simp [results, Tryz.results21, go_sem, k0, k1, hl0]) rfl ⟨rfl, HFIN.out _ (Below.refl _ _) _ _⟩
  · have hin : (decide (1 ≤ n) && decide (n ≤ 50)) = true := by
      rw [Bool.and_eq_true, decide_eq_true_eq, decide_eq_true_eq]; omega
    rw [hin] at HIN
    have hcn : eC n 1 a b = shC .positive a b := eC_ok hn
    by_cases hsh : shC .positive a b = 0
    · have HSH := Lib.hid (fun W => (show Calls Tryz.prog 30 #[.agg #[.string Sa, .string Sb], .func (.func 45) #[] #[]] W _ from jShort_good .positive Sa Sb a b W hSa hSb ha hb hsh))
      obtain ⟨s1, s2, s3, s4⟩ := posit_parts hsh
      have hw2 := wtC_two (c := n) (a := a) (b := b) (by rw [hcn]; exact hsh)
      have hw3 := wtC_three (c := n) (a := a) (b := b) (by rw [hcn]; exact hsh)
      have hok := wt_ok (c := n) (a := a) (b := b)
      have hbad := wt_bad (c := n) (a := a) (b := b)
      obtain ⟨q, hq⟩ : ∃ q, q = ratX a b := ⟨_, rfl⟩
      rw [← hq] at HSH s1 s2 s3 s4 hw2 hw3 hok
      obtain ⟨N, rfl⟩ : ∃ N : Nat, n = N := ⟨n.toNat, by omega⟩
      rw [Int.toNat_natCast] at hok
      have hN : N ≤ 50 := by omega
      have HMK := Lib.hid (fun (W : World) A1 c1 l1 A2 c2 l2 (h1 : NatR W A1 c1 l1 (frN q)) (h2 : NatR W A2 c2 l2 q.den) => jq_short h1 h2 s1 s3 s4)
      have HCP := Lib.hid (fun u v W (hu : JQ W u q 1) (hv : JQ W v ((N : Int) : Rat) 1) => jCompareQ 1 1 u v q ((N : Int) : Rat) W (by omega) (by omega) hu hv)
      obtain ⟨o, ho⟩ : ∃ o, o = ordQ q ((N : Int) : Rat) := ⟨_, rfl⟩
      rw [← ho] at HCP hw2 hw3
      by_cases hlt : o < 0
      · have t3 : decide (0 ≤ o) = false := by simpa using hlt
        have hac : q < ((N : Int) : Rat) := ordQ_lt.1 (by rw [← ho]; exact hlt)
        obtain ⟨hv, he⟩ := hok (hw2 hlt)
        rw [hv, he]
        have HWT := Lib.hid (fun v W (hu : JQ W v q 1) => jWaiting_any N v q W hN hu s1 s2 s3 s4 hac)
        obtain ⟨r, hr⟩ : ∃ r, r = erW q N := ⟨_, rfl⟩
        rw [← hr] at HWT ⊢
        -- the ratio of r
        have hrt : ratOf (rtT r) = .agg #[.string ⟨(rtT r).1.toArray⟩, .string ⟨(rtT r).2.toArray⟩] := rfl
        obtain ⟨R1, hR1⟩ : ∃ R : ByteArray, R = ⟨(rtT r).1.toArray⟩ := ⟨_, rfl⟩
        obtain ⟨R2, hR2⟩ : ∃ R : ByteArray, R = ⟨(rtT r).2.toArray⟩ := ⟨_, rfl⟩
        rw [← hR1, ← hR2] at hrt
        obtain ⟨rc, hrc⟩ : ∃ rc, rc = rtC r := ⟨_, rfl⟩
        have HRA := Lib.hid (fun W v (hb : Below w.heap.size w W) (hv : JQ W v r 212) => jRatioQ 212 v r W (by omega) hv ((htab.on hb).mono hb.size))
        rw [hrt] at HRA
        rw [← hrc] at HRA ⊢
        rw [hrt]
        clear hv he hcn hsh hSa hSb hq hr hrt hR1 hR2 hrc hin s1 s2 s3 s4 hw2 hw3 hok hbad ho hac
        go_enter Tryz.func21, Tryz.ntmps21
        go_wp2_with fail
        rw [← hW0]
        clear hW0
        go_wp2_with fail
        (with_reducible refine (HIN.out _).mono ?_)
        rintro e wi ⟨rfl, hwi⟩
        have hwi' := hwi.symm
        subst hwi'
        go_wp2_with fail
        (with_reducible refine (HSH.out _).mono ?_)
        rintro e w1 ⟨A1, c1, l1, A2, c2, l2, rfl, h1, h2, hb1⟩
        obtain ⟨W2, hW2⟩ : ∃ W2, W2 = w1.alloc (.cells #[.bool false, .slice A1 l1.length c1, .slice A2 l2.length c2] 53) := ⟨_, rfl⟩
        have hb12 : Below w1.heap.size w1 W2 := by rw [hW2]; exact (Below.refl _ w1).alloc (Nat.le_refl _) _
        have HQ2 := Lib.hid (HMK.out W2 _ _ _ _ _ _ (h1.on hb12) (h2.on hb12))
        have HBX := Lib.hid (show W2.heap[w1.heap.size]? = some (.cells #[.bool false, .slice A1 l1.length c1, .slice A2 l2.length c2] 53 (0, 0)) by rw [hW2]; exact alloc_at _ _ _ rfl)
        have HB2 := Lib.hid (below_next hb1 hb12)
        clear p0 p1 k0 k1 z0 z1 hl0 h1 h2 hb1 hb12
        obtain ⟨p0, p1, k0, k1, z0, z1, hl0⟩ := HK.out W2 HB2.out
        go_wp2_with fail
        rw [← hW2]
        clear hW2
        have HKS := Lib.hid (show ∀ X, Below W2.heap.size W2 X → (fun X => Below W2.heap.size W2 X ∧ X.cell? ⟨w1.heap.size, 0, none⟩ = some (.bool false) ∧ X.cell? ⟨w1.heap.size, 1, none⟩ = some (.slice A1 l1.length c1) ∧ X.cell? ⟨w1.heap.size, 2, none⟩ = some (.slice A2 l2.length c2)) X from fun X hX => by
          have e := (hX.block _ (heap_lt HBX.out)).trans HBX.out
          exact ⟨hX, by rw [cellsAt e]; rfl, by rw [cellsAt e]; rfl, by rw [cellsAt e]; rfl⟩)
        refine wp_region_last (init := #[_, _, _, _, _]) (last := _) rfl (by kernel_rfl) (by kernel_rfl) (by kernel_rfl) ?_
        show wpAny _ _ _ _ 5 (Array.replicate 5 false) _ W2.drew
        refine wpAny_of_held (S := (fun X => Below W2.heap.size W2 X ∧ X.cell? ⟨w1.heap.size, 0, none⟩ = some (.bool false) ∧ X.cell? ⟨w1.heap.size, 1, none⟩ = some (.slice A1 l1.length c1) ∧ X.cell? ⟨w1.heap.size, 2, none⟩ = some (.slice A2 l2.length c2))) _ _ _ _ ?_
        have HS0 := HKS.out _ (Below.refl _ W2).drew
        have hbx0 : Below W2.heap.size W2 W2.drew := (Below.refl _ _).drew
        obtain ⟨Xx0, hXx0⟩ : ∃ X, X = W2.drew := ⟨_, rfl⟩
        rw [← hXx0] at hbx0 HS0 ⊢
        have HBx0 := Lib.hid hbx0
        clear hbx0 hXx0
        refine wpAnyH_take (i := 0) (v := ?_) rfl (by kernel_rfl) (by kernel_rfl) (by kernel_rfl) (fun _ _ _ h => h) (Or.inl ⟨by rfl, ?_⟩) HS0 ?_
        rotate_left
        · intro W hW; (try dsimp only at hW); go_simp; try (with_reducible rfl)
        (try simp only [List.getElem_toArray, List.getElem_cons_succ, List.getElem_cons_zero, Act.put, List.setIfInBounds_toArray, List.set_cons_zero, List.set_cons_succ])
        refine wpAnyH_take (i := 1) (v := ?_) rfl (by kernel_rfl) (by kernel_rfl) (by kernel_rfl) (fun _ _ _ h => h) (Or.inl ⟨by rfl, ?_⟩) HS0 ?_
        rotate_left
        · intro W hW; (try dsimp only at hW); go_simp; try (with_reducible rfl)
        (try simp only [List.getElem_toArray, List.getElem_cons_succ, List.getElem_cons_zero, Act.put, List.setIfInBounds_toArray, List.set_cons_zero, List.set_cons_succ])
        clear HS0
        refine run_one (i := 2) (by kernel_rfl) rfl rfl ?_
        intro K hK
        go_simp
        (with_reducible refine (jWholeQ (N : Int) Xx0 (by omega) (by omega)).mono ?_)
        rintro e Xx1 ⟨v1, rfl, hvx1, hbx1⟩
        have HBx1 := Lib.hid (below_next (HBx0.out) hbx1)
        refine hK.out _ _ (HKS.out _ HBx1.out) ?_
        clear hK K
        intro _
        obtain ⟨bwn, Awn, cwn, lwn, Dwn, dwn, mwn, rfl⟩ := hvx1.shape
        (try simp only [List.getElem_toArray, List.getElem_cons_succ, List.getElem_cons_zero, Act.put, List.setIfInBounds_toArray, List.set_cons_zero, List.set_cons_succ])
        refine run_one (i := 3) (by kernel_rfl) rfl rfl ?_
        intro K hK
        go_simp
        (with_reducible refine (HCP.out _ _ Xx1 (HQ2.out.on (HBx1.out)) (hvx1)).mono ?_)
        rintro e Xx2 ⟨rfl, hbx2⟩
        have HBx2 := Lib.hid (below_next (HBx1.out) hbx2)
        refine hK.out _ _ (HKS.out _ HBx2.out) ?_
        clear hK K
        intro _
        (try simp only [List.getElem_toArray, List.getElem_cons_succ, List.getElem_cons_zero, Act.put, List.setIfInBounds_toArray, List.set_cons_zero, List.set_cons_succ])
        have HS0 := HKS.out _ (HBx2.out)
        refine wpAnyH_take (i := 4) (v := ?_) rfl (by kernel_rfl) (by kernel_rfl) (by kernel_rfl) (fun _ _ _ h => h) (Or.inl ⟨by rfl, ?_⟩) HS0 ?_
        rotate_left
        · intro W hW; (try dsimp only at hW); go_simp; try (with_reducible rfl)
        (try simp only [List.getElem_toArray, List.getElem_cons_succ, List.getElem_cons_zero, Act.put, List.setIfInBounds_toArray, List.set_cons_zero, List.set_cons_succ])
        clear HS0
        refine wpAnyH_done (by kernel_rfl) ?_ _
        simp only [LastQ]
        have HB5 := Lib.hid (below_next HB2.out (HBx2.out))
        have HQ5 := Lib.hid (HQ2.out.on (HBx2.out))
        have hks := HKS.out _ (HBx2.out)
        obtain ⟨-, g0, g1, g2⟩ := hks
        clear HQ2
        clear p0 p1 k0 k1 z0 z1 hl0
        obtain ⟨p0, p1, k0, k1, z0, z1, hl0⟩ := HK.out _ HB5.out
        go_simp
        go_wp2_with fail
        (with_reducible refine (HWT.out _ _ HQ5.out).mono ?_)
        rintro e w6 ⟨v6, rfl, hv6, hb6⟩
        have HB6 := Lib.hid (below_next HB5.out hb6)
        have HRA6 := Lib.hid (HRA.out w6 v6 (below_next HST0.out.below HB6.out) hv6)
        obtain ⟨b7, A7, c7, l7, A8, c8, l8, rfl⟩ := hv6.shape
        clear p0 p1 k0 k1 z0 z1 hl0 hb6 hv6 g0 g1 g2
        go_wp2_with fail
        (with_reducible refine (HRA6.out).mono ?_)
        rintro e w7 ⟨rfl, hb7⟩
        have HB7 := Lib.hid (below_next HB6.out hb7)
        obtain ⟨p0, p1, k0, k1, z0, z1, hl0⟩ := HK.out w7 HB7.out
        go_wp2
        refine bodyPost_ret (v := .tuple #[.agg #[.string R1, .string R2], .int .i64 rc]) (by simp [results, Tryz.results21, go_sem, k0, k1, hl0]) rfl ⟨rfl, HFIN.out _ HB7.out _ _⟩
      · have t3 : decide (0 ≤ o) = true := decide_eq_true (by omega)
        obtain ⟨hv, he⟩ := hbad (by rw [hw3 hlt]; decide)
        rw [hv, he, hw3 hlt, rat_none]
        clear hv he hcn hsh hSa hSb hq hin s1 s2 s3 s4 hw2 hw3 hok hbad ho
        go_enter Tryz.func21, Tryz.ntmps21
        go_wp2_with fail
        rw [← hW0]
        clear hW0
        go_wp2_with fail
        (with_reducible refine (HIN.out _).mono ?_)
        rintro e wi ⟨rfl, hwi⟩
        have hwi' := hwi.symm
        subst hwi'
        go_wp2_with fail
        (with_reducible refine (HSH.out _).mono ?_)
        rintro e w1 ⟨A1, c1, l1, A2, c2, l2, rfl, h1, h2, hb1⟩
        obtain ⟨W2, hW2⟩ : ∃ W2, W2 = w1.alloc (.cells #[.bool false, .slice A1 l1.length c1, .slice A2 l2.length c2] 53) := ⟨_, rfl⟩
        have hb12 : Below w1.heap.size w1 W2 := by rw [hW2]; exact (Below.refl _ w1).alloc (Nat.le_refl _) _
        have HQ2 := Lib.hid (HMK.out W2 _ _ _ _ _ _ (h1.on hb12) (h2.on hb12))
        have HBX := Lib.hid (show W2.heap[w1.heap.size]? = some (.cells #[.bool false, .slice A1 l1.length c1, .slice A2 l2.length c2] 53 (0, 0)) by rw [hW2]; exact alloc_at _ _ _ rfl)
        have HB2 := Lib.hid (below_next hb1 hb12)
        clear p0 p1 k0 k1 z0 z1 hl0 h1 h2 hb1 hb12
        obtain ⟨p0, p1, k0, k1, z0, z1, hl0⟩ := HK.out W2 HB2.out
        go_wp2_with fail
        rw [← hW2]
        clear hW2
        have HKS := Lib.hid (show ∀ X, Below W2.heap.size W2 X → (fun X => Below W2.heap.size W2 X ∧ X.cell? ⟨w1.heap.size, 0, none⟩ = some (.bool false) ∧ X.cell? ⟨w1.heap.size, 1, none⟩ = some (.slice A1 l1.length c1) ∧ X.cell? ⟨w1.heap.size, 2, none⟩ = some (.slice A2 l2.length c2)) X from fun X hX => by
          have e := (hX.block _ (heap_lt HBX.out)).trans HBX.out
          exact ⟨hX, by rw [cellsAt e]; rfl, by rw [cellsAt e]; rfl, by rw [cellsAt e]; rfl⟩)
        refine wp_region_last (init := #[_, _, _, _, _]) (last := _) rfl (by kernel_rfl) (by kernel_rfl) (by kernel_rfl) ?_
        show wpAny _ _ _ _ 5 (Array.replicate 5 false) _ W2.drew
        refine wpAny_of_held (S := (fun X => Below W2.heap.size W2 X ∧ X.cell? ⟨w1.heap.size, 0, none⟩ = some (.bool false) ∧ X.cell? ⟨w1.heap.size, 1, none⟩ = some (.slice A1 l1.length c1) ∧ X.cell? ⟨w1.heap.size, 2, none⟩ = some (.slice A2 l2.length c2))) _ _ _ _ ?_
        have HS0 := HKS.out _ (Below.refl _ W2).drew
        have hbx0 : Below W2.heap.size W2 W2.drew := (Below.refl _ _).drew
        obtain ⟨Xx0, hXx0⟩ : ∃ X, X = W2.drew := ⟨_, rfl⟩
        rw [← hXx0] at hbx0 HS0 ⊢
        have HBx0 := Lib.hid hbx0
        clear hbx0 hXx0
        refine wpAnyH_take (i := 0) (v := ?_) rfl (by kernel_rfl) (by kernel_rfl) (by kernel_rfl) (fun _ _ _ h => h) (Or.inl ⟨by rfl, ?_⟩) HS0 ?_
        rotate_left
        · intro W hW; (try dsimp only at hW); go_simp; try (with_reducible rfl)
        (try simp only [List.getElem_toArray, List.getElem_cons_succ, List.getElem_cons_zero, Act.put, List.setIfInBounds_toArray, List.set_cons_zero, List.set_cons_succ])
        refine wpAnyH_take (i := 1) (v := ?_) rfl (by kernel_rfl) (by kernel_rfl) (by kernel_rfl) (fun _ _ _ h => h) (Or.inl ⟨by rfl, ?_⟩) HS0 ?_
        rotate_left
        · intro W hW; (try dsimp only at hW); go_simp; try (with_reducible rfl)
        (try simp only [List.getElem_toArray, List.getElem_cons_succ, List.getElem_cons_zero, Act.put, List.setIfInBounds_toArray, List.set_cons_zero, List.set_cons_succ])
        clear HS0
        refine run_one (i := 2) (by kernel_rfl) rfl rfl ?_
        intro K hK
        go_simp
        (with_reducible refine (jWholeQ (N : Int) Xx0 (by omega) (by omega)).mono ?_)
        rintro e Xx1 ⟨v1, rfl, hvx1, hbx1⟩
        have HBx1 := Lib.hid (below_next (HBx0.out) hbx1)
        refine hK.out _ _ (HKS.out _ HBx1.out) ?_
        clear hK K
        intro _
        obtain ⟨bwn, Awn, cwn, lwn, Dwn, dwn, mwn, rfl⟩ := hvx1.shape
        (try simp only [List.getElem_toArray, List.getElem_cons_succ, List.getElem_cons_zero, Act.put, List.setIfInBounds_toArray, List.set_cons_zero, List.set_cons_succ])
        refine run_one (i := 3) (by kernel_rfl) rfl rfl ?_
        intro K hK
        go_simp
        (with_reducible refine (HCP.out _ _ Xx1 (HQ2.out.on (HBx1.out)) (hvx1)).mono ?_)
        rintro e Xx2 ⟨rfl, hbx2⟩
        have HBx2 := Lib.hid (below_next (HBx1.out) hbx2)
        refine hK.out _ _ (HKS.out _ HBx2.out) ?_
        clear hK K
        intro _
        (try simp only [List.getElem_toArray, List.getElem_cons_succ, List.getElem_cons_zero, Act.put, List.setIfInBounds_toArray, List.set_cons_zero, List.set_cons_succ])
        have HS0 := HKS.out _ (HBx2.out)
        refine wpAnyH_take (i := 4) (v := ?_) rfl (by kernel_rfl) (by kernel_rfl) (by kernel_rfl) (fun _ _ _ h => h) (Or.inl ⟨by rfl, ?_⟩) HS0 ?_
        rotate_left
        · intro W hW; (try dsimp only at hW); go_simp; try (with_reducible rfl)
        (try simp only [List.getElem_toArray, List.getElem_cons_succ, List.getElem_cons_zero, Act.put, List.setIfInBounds_toArray, List.set_cons_zero, List.set_cons_succ])
        clear HS0
        refine wpAnyH_done (by kernel_rfl) ?_ _
        simp only [LastQ]
        have HB5 := Lib.hid (below_next HB2.out (HBx2.out))
        have HQ5 := Lib.hid (HQ2.out.on (HBx2.out))
        have hks := HKS.out _ (HBx2.out)
        obtain ⟨-, g0, g1, g2⟩ := hks
        clear HQ2
        clear p0 p1 k0 k1 z0 z1 hl0
        obtain ⟨p0, p1, k0, k1, z0, z1, hl0⟩ := HK.out _ HB5.out
        go_simp
        go_wp2
        refine bodyPost_ret (v := .tuple #[.agg #[.string ⟨#[]⟩, .string ⟨#[]⟩], .int .i64 9]) (by simp [results, Tryz.results21, go_sem, k0, k1, hl0]) rfl ⟨rfl, HFIN.out _ HB5.out _ _⟩
    · obtain ⟨hv, he⟩ := wt_bad (c := n) (a := a) (b := b) (by rw [wtC_one (by rw [hcn]; exact hsh), hcn]; exact hsh)
      rw [hv, he, wtC_one (by rw [hcn]; exact hsh), hcn, rat_none]
      have HSH := Lib.hid (fun W => (show Calls Tryz.prog 30 #[.agg #[.string Sa, .string Sb], .func (.func 45) #[] #[]] W _ from jShort_bad .positive Sa Sb a b W hSa hSb ha hb hsh))
      obtain ⟨cc, hcc⟩ : ∃ cc, cc = shC .positive a b := ⟨_, rfl⟩
      rw [← hcc] at HSH hsh ⊢
      have t2 : (cc != 0) = true := by rw [bne_iff_ne]; exact hsh
      clear hv he hcn hsh hSa hSb hcc hin ha hb
      go_enter Tryz.func21, Tryz.ntmps21
      go_wp2_with fail
      rw [← hW0]
      clear hW0
      go_wp2_with fail
      (with_reducible refine (HIN.out _).mono ?_)
      rintro e wi ⟨rfl, hwi⟩
      have hwi' := hwi.symm
      subst hwi'
      go_wp2_with fail
      (with_reducible refine (HSH.out _).mono ?_)
      rintro e w1 ⟨rfl, hb1⟩
      obtain ⟨W2, hW2⟩ : ∃ W2, W2 = w1.alloc (.cells #[.bool false, .slice none 0 0, .slice none 0 0] 53) := ⟨_, rfl⟩
      have hb12 : Below w1.heap.size w1 W2 := by rw [hW2]; exact (Below.refl _ w1).alloc (Nat.le_refl _) _
      have HB2 := Lib.hid (below_next hb1 hb12)
      clear p0 p1 k0 k1 z0 z1 hl0 hb12
      obtain ⟨p0, p1, k0, k1, z0, z1, hl0⟩ := HK.out W2 HB2.out
      have o1 := k0
      have o2 := k1
      have o3 := z0
      have o4 := z1
      have o5 := hl0
      rw [hW2] at o1 o2 o3 o4 o5
      clear hb1
      go_wp2
      rw [← hW2]
      refine bodyPost_ret (v := .tuple #[.agg #[.string ⟨#[]⟩, .string ⟨#[]⟩], .int .i64 cc]) (by simp [results, Tryz.results21, go_sem, k0, k1, hl0]) rfl ⟨rfl, HFIN.out _ HB2.out _ _⟩
end Go.Proofs.YtpmnhdgajkickaaGreatDoor
