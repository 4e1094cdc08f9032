/- Package judge: how many servers are needed. Printed by gen_jserv.py. -/
import Derived.Test.YtpmnhdgajkickaaGreatDoorJErlB
import Derived.Test.YtpmnhdgajkickaaGreatDoorJWait
import Derived.Test.YtpmnhdgajkickaaGreatDoorLawRt
namespace Go.Proofs.YtpmnhdgajkickaaGreatDoor
open Go Go.RowKit Go.Proofs

theorem first_none {P : Nat → Bool} {K : Nat} (h : ∀ m, 1 ≤ m → m ≤ K → P m = false) : firstP P K = 0 := by
  rcases firstP_spec P K with ⟨g0, g⟩ | ⟨g0, g1, g2, g3⟩
  · exact g0
  · rw [h _ g0 g1] at g2; cases g2
theorem first_hit {P : Nat → Bool} {K i : Nat} (h1 : 1 ≤ i) (h2 : i ≤ K) (hp : P i = true) (h : ∀ m, 1 ≤ m → m < i → P m = false) : firstP P K = i := by
  rcases firstP_spec P K with ⟨g0, g⟩ | ⟨g0, g1, g2, g3⟩
  · rw [g i h1 h2] at hp; cases hp
  · rcases Nat.lt_trichotomy (firstP P K) i with e | e | e
    · rw [h _ g0 e] at g2; cases g2
    · exact e
    · rw [g3 i h1 e] at hp; cases hp
theorem srv_bad {a b d e : List UInt8} (h : srvC a b d e ≠ 0) : srvV a b d e = 0 ∧ srvE a b d e = srvC a b d e := by unfold srvV srvE; rw [if_pos h, if_pos h]; exact ⟨rfl, rfl⟩
theorem srv_none {a b d e : List UInt8} (h : srvC a b d e = 0) (h2 : ∀ m, 1 ≤ m → m ≤ 50 → srvP (ratX a b) (ratX d e) m = false) : srvV a b d e = 0 ∧ srvE a b d e = 4 := by
  unfold srvV srvE; rw [if_neg (by omega), if_neg (by omega), first_none h2]; exact ⟨rfl, rfl⟩
theorem srv_some {a b d e : List UInt8} (h : srvC a b d e = 0) {i : Nat} (h1 : 1 ≤ i) (h3 : i ≤ 50) (hp : srvP (ratX a b) (ratX d e) i = true) (h2 : ∀ m, 1 ≤ m → m < i → srvP (ratX a b) (ratX d e) m = false) : srvV a b d e = (i : Nat) ∧ srvE a b d e = 0 := by
  unfold srvV srvE; rw [if_neg (by omega), if_neg (by omega), first_hit h1 h3 hp h2]; exact ⟨rfl, by rw [if_neg (by omega)]⟩
set_option maxHeartbeats 8000000 in
set_option maxRecDepth 100000 in
theorem jServers_any (Sa Sb Sc Sd : ByteArray) (a b c d : List UInt8) (w : World) (hSa : Sa.data.toList = a) (hSb : Sb.data.toList = b) (hSc : Sc.data.toList = c) (hSd : Sd.data.toList = d) (ha : Sa.size ≤ 9223372036854775800) (hb : Sb.size ≤ 9223372036854775800) (hc : Sc.size ≤ 9223372036854775800) (hd : Sd.size ≤ 9223372036854775800) :
    Calls Tryz.prog 23 #[.agg #[.string Sa, .string Sb], .agg #[.string Sc, .string Sd]] w fun e w' => e = .returned (.tuple #[.int .i64 (srvV a b c d), .int .i64 (srvE a b c d)]) ∧ Below w.heap.size w w' := by
  obtain ⟨W0, hW0⟩ : ∃ W0, W0 = (w.alloc (.cells #[.string Sa, .string Sb] 23)).alloc (.cells #[.string Sc, .string Sd] 23) := ⟨_, rfl⟩
  have HST0 := Lib.hid (show St w W0 [(w.heap.size, .cells #[.string Sa, .string Sb] 23 (0, 0)), (w.heap.size + 1, .cells #[.string Sc, .string Sd] 23 (0, 0))] by rw [hW0]; exact ((St.start w).alloc _ _ rfl).alloc _ _ (by simp))
  have HK := Lib.hid (show ∀ X, Below W0.heap.size W0 X → X.cell? ⟨w.heap.size, 0, none⟩ = some (.string Sa) ∧ X.cell? ⟨w.heap.size, 1, none⟩ = some (.string Sb) ∧ X.cell? ⟨w.heap.size + 1, 0, none⟩ = some (.string Sc) ∧ X.cell? ⟨w.heap.size + 1, 1, none⟩ = some (.string Sd) from fun X hX => ⟨(HST0.out.call hX).cell 0 0 rfl rfl, (HST0.out.call hX).cell 0 1 rfl rfl, (HST0.out.call hX).cell 1 0 rfl rfl, (HST0.out.call hX).cell 1 1 rfl rfl⟩)
  obtain ⟨p0, p1, p2, p3⟩ := HK.out W0 (Below.refl _ _)
  by_cases hs1 : shC .positive a b = 0
  · have HSH := Lib.hid (fun W => (show Calls Tryz.prog 30 #[.agg #[.string Sa, .string Sb], .func (.func 45) #[] #[]] W _ from jShort_good .positive Sa Sb a b W hSa hSb ha hb hs1))
    have hsc : srvC a b c d = shC .share c d := by unfold srvC; rw [if_neg (by omega)]
    by_cases hs2 : shC .share c d = 0
    · have HSH2 := Lib.hid (fun W => (show Calls Tryz.prog 30 #[.agg #[.string Sc, .string Sd], .func (.func 69) #[] #[]] W _ from jShort_good .share Sc Sd c d W hSc hSd hc hd hs2))
      have hnone := srv_none (a := a) (b := b) (d := c) (e := d) (by rw [hsc]; exact hs2)
      have hsome := fun i => srv_some (a := a) (b := b) (d := c) (e := d) (by rw [hsc]; exact hs2) (i := i)
      obtain ⟨s1, s2, s3, s4⟩ := posit_parts hs1
      obtain ⟨y1, y2, y3, y4⟩ := shC_small hs2
      obtain ⟨q, hq⟩ : ∃ q, q = ratX a b := ⟨_, rfl⟩
      obtain ⟨s, hs⟩ : ∃ q, q = ratX c d := ⟨_, rfl⟩
      rw [← hq] at HSH s1 s2 s3 s4 hnone hsome
      rw [← hs] at HSH2 y1 y2 y3 y4 hnone hsome
      obtain ⟨V, hV⟩ : ∃ V, V = srvV a b c d := ⟨_, rfl⟩
      obtain ⟨E, hE⟩ : ∃ V, V = srvE a b c d := ⟨_, rfl⟩
      rw [← hV, ← hE] at hnone hsome ⊢
      have HNONE := Lib.hid hnone
      have HSOME := Lib.hid hsome
      have HMK := Lib.hid (fun (W : World) A1 c1 l1 A2 c2 l2 (h1 : NatR W A1 c1 l1 (frN q)) (h2 : NatR W A2 c2 l2 q.den) => jq_short h1 h2 s1 s3 s4)
      have HMK2 := Lib.hid (fun (W : World) A1 c1 l1 A2 c2 l2 (h1 : NatR W A1 c1 l1 (frN s)) (h2 : NatR W A2 c2 l2 s.den) => jq_short h1 h2 y4 (by omega) (by omega))
      have HWTA := Lib.hid (fun (N : Nat) (hN : N ≤ 50) v W (hac : q < ((N : Int) : Rat)) (hu : JQ W v q 1) => jWaiting_any N v q W hN hu s1 s2 s3 s4 hac)
      clear hq hs hV hE hnone hsome hsc hs1 hs2 s1 s2 s3 s4 y1 y2 y3 y4 hSa hSb hSc hSd ha hb hc hd
      go_enter Tryz.func23, Tryz.ntmps23
      go_wp2_with fail
      rw [← hW0]
      clear hW0
      (with_reducible refine (HSH.out _).mono ?_)
      rintro e w1 ⟨A1, c1, l1, A2, c2, l2, rfl, h1, h2, hb1⟩
      obtain ⟨W2, hW2⟩ : ∃ W2, W2 = w1.alloc (.cells #[.bool false, .slice A1 l1.length c1, .slice A2 l2.length c2] 53) := ⟨_, rfl⟩
      have hb12 : Below w1.heap.size w1 W2 := by rw [hW2]; exact (Below.refl _ w1).alloc (Nat.le_refl _) _
      have HQ2 := Lib.hid (HMK.out W2 _ _ _ _ _ _ (h1.on hb12) (h2.on hb12))
      have HBX := Lib.hid (show W2.heap[w1.heap.size]? = some (.cells #[.bool false, .slice A1 l1.length c1, .slice A2 l2.length c2] 53 (0, 0)) by rw [hW2]; exact alloc_at _ _ _ rfl)
      have HB2 := Lib.hid (below_next hb1 hb12)
      clear p0 p1 p2 p3 h1 h2 hb1 hb12
      obtain ⟨p0, p1, p2, p3⟩ := HK.out W2 HB2.out
      have o2 := p2
      have o3 := p3
      rw [hW2] at o2 o3
      go_wp2_with fail
      rw [← hW2]
      clear hW2 o2 o3
      (with_reducible refine (HSH2.out _).mono ?_)
      rintro e w3 ⟨A3, c3, l3, A4, c4, l4, rfl, h1, h2, hb1⟩
      obtain ⟨W4, hW4⟩ : ∃ W2, W2 = w3.alloc (.cells #[.bool false, .slice A3 l3.length c3, .slice A4 l4.length c4] 53) := ⟨_, rfl⟩
      have hb34 : Below w3.heap.size w3 W4 := by rw [hW4]; exact (Below.refl _ w3).alloc (Nat.le_refl _) _
      have HS4 := Lib.hid (HMK2.out W4 _ _ _ _ _ _ (h1.on hb34) (h2.on hb34))
      have hb24 := below_next hb1 hb34
      have HQ4 := Lib.hid (HQ2.out.on hb24)
      have HBX1 := Lib.hid ((hb24.block _ (heap_lt HBX.out)).trans HBX.out)
      have HBX2 := Lib.hid (show W4.heap[w3.heap.size]? = some (.cells #[.bool false, .slice A3 l3.length c3, .slice A4 l4.length c4] 53 (0, 0)) by rw [hW4]; exact alloc_at _ _ _ rfl)
      have HB4 := Lib.hid (below_next HST0.out.below (below_next HB2.out hb24))
      clear p0 p1 p2 p3 h1 h2 hb1 hb34 hb24 HQ2 HBX
      go_wp2
      rw [← hW4]
      clear hW4
      go_loopw [9] (fun kv wr => ∃ i : Nat, kv = .int .i64 (i : Nat) ∧ 1 ≤ i ∧ i ≤ 51 ∧ (∀ m, 1 ≤ m → m < i → srvP q s m = false) ∧ Below W4.heap.size W4 wr) (fun kv _ => 51 - (intOf kv).toNat)
      case atStart => exact ⟨1, rfl, by omega, by omega, fun m g1 g2 => by omega, Below.refl _ _⟩
      case round =>
        obtain ⟨i, rfl, hi1, hi2, hall, hbw⟩ := hrel
        have HBW := Lib.hid hbw
        have HALL := Lib.hid hall
        by_cases hlt : i ≤ 50
        · have HQR := Lib.hid (HQ4.out.on hbw)
          have HSR := Lib.hid (HS4.out.on hbw)
          have HCP := Lib.hid (fun u v W (hu : JQ W u q 1) (hv : JQ W v ((i : Int) : Rat) 1) => jCompareQ 1 1 u v q ((i : Int) : Rat) W (by omega) (by omega) hu hv)
          obtain ⟨o, ho⟩ : ∃ o, o = ordQ q ((i : Int) : Rat) := ⟨_, rfl⟩
          rw [← ho] at HCP
          have HKS := Lib.hid (show ∀ X, Below wr.heap.size wr X → (fun X => Below wr.heap.size wr X ∧ X.cell? ⟨w1.heap.size, 0, none⟩ = some (.bool false) ∧ X.cell? ⟨w1.heap.size, 1, none⟩ = some (.slice A1 l1.length c1) ∧ X.cell? ⟨w1.heap.size, 2, none⟩ = some (.slice A2 l2.length c2) ∧ X.cell? ⟨w3.heap.size, 0, none⟩ = some (.bool false) ∧ X.cell? ⟨w3.heap.size, 1, none⟩ = some (.slice A3 l3.length c3) ∧ X.cell? ⟨w3.heap.size, 2, none⟩ = some (.slice A4 l4.length c4)) X from fun X hX => by
            have e1 := ((below_next HBW.out hX).block _ (heap_lt HBX1.out)).trans HBX1.out
            have e2 := ((below_next HBW.out hX).block _ (heap_lt HBX2.out)).trans HBX2.out
            exact ⟨hX, by rw [cellsAt e1]; rfl, by rw [cellsAt e1]; rfl, by rw [cellsAt e1]; rfl, by rw [cellsAt e2]; rfl, by rw [cellsAt e2]; rfl, by rw [cellsAt e2]; rfl⟩)
          have hsp : srvP q s i = (decide (o < 0) && decide (ordQ (erW q i) s ≤ 0)) := by rw [ho]; rfl
          by_cases hol : o < 0
          · have t1 : decide (o < 0) = true := decide_eq_true hol
            have HWT := Lib.hid (fun v W (hu : JQ W v q 1) => HWTA.out i (by omega) v W (ordQ_lt.1 (by rw [← ho]; exact hol)) hu)
            have HCQ := Lib.hid (fun u v W (hu : JQ W u (erW q i) 212) (hv : JQ W v s 1) => jCompareQ 212 1 u v (erW q i) s W (by omega) (by omega) hu hv)
            obtain ⟨p, hp⟩ : ∃ p, p = ordQ (erW q i) s := ⟨_, rfl⟩
            rw [← hp] at HCQ hsp
            by_cases hpl : p ≤ 0
            · have t2 : decide (p ≤ 0) = true := decide_eq_true hpl
              have HHIT := Lib.hid (HSOME.out i hi1 hlt (by rw [hsp, t1, t2]; rfl) HALL.out)
              clear hall hbw ho hp hsp
              go_wp2_with fail
              refine wp_region_noPanic ?_
              refine wp_region_held_drew (S := (fun X => Below wr.heap.size wr X ∧ X.cell? ⟨w1.heap.size, 0, none⟩ = some (.bool false) ∧ X.cell? ⟨w1.heap.size, 1, none⟩ = some (.slice A1 l1.length c1) ∧ X.cell? ⟨w1.heap.size, 2, none⟩ = some (.slice A2 l2.length c2) ∧ X.cell? ⟨w3.heap.size, 0, none⟩ = some (.bool false) ∧ X.cell? ⟨w3.heap.size, 1, none⟩ = some (.slice A3 l3.length c3) ∧ X.cell? ⟨w3.heap.size, 2, none⟩ = some (.slice A4 l4.length c4))) (by kernel_rfl) (HKS.out _ (Below.refl _ wr).drew) (fun HS0 => ?_)
              have hbx0 : Below wr.heap.size wr wr.drew := (Below.refl _ _).drew
              obtain ⟨Xx0, hXx0⟩ : ∃ X, X = wr.drew := ⟨_, rfl⟩
              rw [← hXx0] at hbx0 HS0 ⊢
              have HBx0 := Lib.hid hbx0
              clear hbx0 hXx0
              refine wpAnyH_take (i := 0) (v := ?_) rfl (by kernel_rfl) (by kernel_rfl) (by kernel_rfl) (fun _ _ _ h => h) (Or.inl ⟨by rfl, ?_⟩) HS0 ?_
              rotate_left
              · intro W hW; (try dsimp only at hW); go_simp; try (with_reducible rfl)
              (try simp only [List.getElem_toArray, List.getElem_cons_succ, List.getElem_cons_zero, Act.put, List.setIfInBounds_toArray, List.set_cons_zero, List.set_cons_succ])
              refine wpAnyH_take (i := 1) (v := ?_) rfl (by kernel_rfl) (by kernel_rfl) (by kernel_rfl) (fun _ _ _ h => h) (Or.inl ⟨by rfl, ?_⟩) HS0 ?_
              rotate_left
              · intro W hW; (try dsimp only at hW); go_simp; try (with_reducible rfl)
              (try simp only [List.getElem_toArray, List.getElem_cons_succ, List.getElem_cons_zero, Act.put, List.setIfInBounds_toArray, List.set_cons_zero, List.set_cons_succ])
              clear HS0
              refine run_one (i := 2) (by kernel_rfl) rfl rfl ?_
              intro K hK
              go_simp
              (with_reducible refine (jWholeQ (i : Int) Xx0 (by omega) (by omega)).mono ?_)
              rintro e Xx1 ⟨v1, rfl, hvx1, hbx1⟩
              have HBx1 := Lib.hid (below_next (HBx0.out) hbx1)
              refine hK.out _ _ (HKS.out _ HBx1.out) ?_
              clear hK K
              intro _
              obtain ⟨bwn, Awn, cwn, lwn, Dwn, dwn, mwn, rfl⟩ := hvx1.shape
              (try simp only [List.getElem_toArray, List.getElem_cons_succ, List.getElem_cons_zero, Act.put, List.setIfInBounds_toArray, List.set_cons_zero, List.set_cons_succ])
              refine run_one (i := 3) (by kernel_rfl) rfl rfl ?_
              intro K hK
              go_simp
              (with_reducible refine (HCP.out _ _ Xx1 (HQR.out.on (HBx1.out)) (hvx1)).mono ?_)
              rintro e Xx2 ⟨rfl, hbx2⟩
              have HBx2 := Lib.hid (below_next (HBx1.out) hbx2)
              refine hK.out _ _ (HKS.out _ HBx2.out) ?_
              clear hK K
              intro _
              (try simp only [List.getElem_toArray, List.getElem_cons_succ, List.getElem_cons_zero, Act.put, List.setIfInBounds_toArray, List.set_cons_zero, List.set_cons_succ])
              have HS0 := HKS.out _ (HBx2.out)
              refine wpAnyH_take (i := 4) (v := ?_) rfl (by kernel_rfl) (by kernel_rfl) (by kernel_rfl) (fun _ _ _ h => h) (Or.inl ⟨by rfl, ?_⟩) HS0 ?_
              rotate_left
              · intro W hW; (try dsimp only at hW); go_simp; try (with_reducible rfl)
              (try simp only [List.getElem_toArray, List.getElem_cons_succ, List.getElem_cons_zero, Act.put, List.setIfInBounds_toArray, List.set_cons_zero, List.set_cons_succ])
              clear HS0
              have HS0 := HKS.out _ (HBx2.out)
              refine wpAnyH_take (i := 5) (v := ?_) rfl (by kernel_rfl) (by kernel_rfl) (by kernel_rfl) (fun _ _ _ h => h) (Or.inl ⟨by rfl, ?_⟩) HS0 ?_
              rotate_left
              · intro W hW; (try dsimp only at hW); go_simp; try (with_reducible rfl)
              (try simp only [List.getElem_toArray, List.getElem_cons_succ, List.getElem_cons_zero, Act.put, List.setIfInBounds_toArray, List.set_cons_zero, List.set_cons_succ])
              clear HS0
              have HS0 := HKS.out _ (HBx2.out)
              refine wpAnyH_take (i := 6) (v := ?_) rfl (by kernel_rfl) (by kernel_rfl) (by kernel_rfl) (fun _ _ _ h => h) (Or.inl ⟨by rfl, ?_⟩) HS0 ?_
              rotate_left
              · intro W hW; (try dsimp only at hW); go_simp; try (with_reducible rfl)
              (try simp only [List.getElem_toArray, List.getElem_cons_succ, List.getElem_cons_zero, Act.put, List.setIfInBounds_toArray, List.set_cons_zero, List.set_cons_succ])
              clear HS0
              have HS0 := HKS.out _ (HBx2.out)
              refine wpAnyH_take (i := 7) (v := ?_) rfl (by kernel_rfl) (by kernel_rfl) (by kernel_rfl) (fun _ _ _ h => h) (Or.inl ⟨by rfl, ?_⟩) HS0 ?_
              rotate_left
              · intro W hW; (try dsimp only at hW); go_simp; try (with_reducible rfl)
              (try simp only [List.getElem_toArray, List.getElem_cons_succ, List.getElem_cons_zero, Act.put, List.setIfInBounds_toArray, List.set_cons_zero, List.set_cons_succ])
              clear HS0
              have HS0 := HKS.out _ (HBx2.out)
              refine wpAnyH_take (i := 9) (v := ?_) rfl (by kernel_rfl) (by kernel_rfl) (by kernel_rfl) (fun _ _ _ h => h) (Or.inl ⟨by rfl, ?_⟩) HS0 ?_
              rotate_left
              · intro W hW; (try dsimp only at hW); go_simp; try (with_reducible rfl)
              (try simp only [List.getElem_toArray, List.getElem_cons_succ, List.getElem_cons_zero, Act.put, List.setIfInBounds_toArray, List.set_cons_zero, List.set_cons_succ])
              clear HS0
              refine run_oneG (i := 8) (by kernel_rfl) rfl (by rfl) ?_
              intro K hK
              go_simp
              (with_reducible refine (HWT.out _ Xx2 (HQR.out.on (HBx2.out))).mono ?_)
              rintro e Xx3 ⟨v3, rfl, hvx3, hbx3⟩
              have HBx3 := Lib.hid (below_next (HBx2.out) hbx3)
              refine hK.out _ _ (HKS.out _ HBx3.out) ?_
              clear hK K
              intro _
              obtain ⟨bwt, Awt, cwt, lwt, Dwt, dwt, mwt, rfl⟩ := hvx3.shape
              (try simp only [List.getElem_toArray, List.getElem_cons_succ, List.getElem_cons_zero, Act.put, List.setIfInBounds_toArray, List.set_cons_zero, List.set_cons_succ])
              refine run_oneG (i := 10) (by kernel_rfl) rfl (by rfl) ?_
              intro K hK
              go_simp
              (with_reducible refine (HCQ.out _ _ Xx3 (hvx3) (HSR.out.on (HBx3.out))).mono ?_)
              rintro e Xx4 ⟨rfl, hbx4⟩
              have HBx4 := Lib.hid (below_next (HBx3.out) hbx4)
              refine hK.out _ _ (HKS.out _ HBx4.out) ?_
              clear hK K
              intro _
              (try simp only [List.getElem_toArray, List.getElem_cons_succ, List.getElem_cons_zero, Act.put, List.setIfInBounds_toArray, List.set_cons_zero, List.set_cons_succ])
              have HS0 := HKS.out _ (HBx4.out)
              refine wpAnyH_take (i := 11) (v := ?_) rfl (by kernel_rfl) (by kernel_rfl) (by kernel_rfl) (fun _ _ _ h => h) (Or.inl ⟨by rfl, ?_⟩) HS0 ?_
              rotate_left
              · intro W hW; (try dsimp only at hW); go_simp; try (with_reducible rfl)
              (try simp only [List.getElem_toArray, List.getElem_cons_succ, List.getElem_cons_zero, Act.put, List.setIfInBounds_toArray, List.set_cons_zero, List.set_cons_succ])
              clear HS0
              have HS0 := HKS.out _ (HBx4.out)
              refine wpAnyH_take (i := 12) (v := ?_) rfl (by kernel_rfl) (by kernel_rfl) (by kernel_rfl) (fun _ _ _ h => h) (Or.inl ⟨by rfl, ?_⟩) HS0 ?_
              rotate_left
              · intro W hW; (try dsimp only at hW); go_simp; try (with_reducible rfl)
              (try simp only [List.getElem_toArray, List.getElem_cons_succ, List.getElem_cons_zero, Act.put, List.setIfInBounds_toArray, List.set_cons_zero, List.set_cons_succ])
              clear HS0
              refine wpAnyH_done (by kernel_rfl) ?_ _
              refine NoPanic.normal ?_
              have HBN := Lib.hid (below_next HBW.out (HBx4.out))
              go_wp2
              refine bodyPost_ret (v := .tuple #[.int .i64 (i : Nat), .int .i64 0]) (by simp [results, Tryz.results23, go_sem]) rfl ⟨by rw [HHIT.out.1, HHIT.out.2], below_next HB4.out HBN.out⟩
            · have t2 : decide (p ≤ 0) = false := decide_eq_false hpl
              have HMISS := Lib.hid (show srvP q s i = false by rw [hsp, t1, t2]; rfl)
              clear hall hbw ho hp hsp
              go_wp2_with fail
              refine wp_region_noPanic ?_
              refine wp_region_held_drew (S := (fun X => Below wr.heap.size wr X ∧ X.cell? ⟨w1.heap.size, 0, none⟩ = some (.bool false) ∧ X.cell? ⟨w1.heap.size, 1, none⟩ = some (.slice A1 l1.length c1) ∧ X.cell? ⟨w1.heap.size, 2, none⟩ = some (.slice A2 l2.length c2) ∧ X.cell? ⟨w3.heap.size, 0, none⟩ = some (.bool false) ∧ X.cell? ⟨w3.heap.size, 1, none⟩ = some (.slice A3 l3.length c3) ∧ X.cell? ⟨w3.heap.size, 2, none⟩ = some (.slice A4 l4.length c4))) (by kernel_rfl) (HKS.out _ (Below.refl _ wr).drew) (fun HS0 => ?_)
              have hbx0 : Below wr.heap.size wr wr.drew := (Below.refl _ _).drew
              obtain ⟨Xx0, hXx0⟩ : ∃ X, X = wr.drew := ⟨_, rfl⟩
              rw [← hXx0] at hbx0 HS0 ⊢
              have HBx0 := Lib.hid hbx0
              clear hbx0 hXx0
              refine wpAnyH_take (i := 0) (v := ?_) rfl (by kernel_rfl) (by kernel_rfl) (by kernel_rfl) (fun _ _ _ h => h) (Or.inl ⟨by rfl, ?_⟩) HS0 ?_
              rotate_left
              · intro W hW; (try dsimp only at hW); go_simp; try (with_reducible rfl)
              (try simp only [List.getElem_toArray, List.getElem_cons_succ, List.getElem_cons_zero, Act.put, List.setIfInBounds_toArray, List.set_cons_zero, List.set_cons_succ])
              refine wpAnyH_take (i := 1) (v := ?_) rfl (by kernel_rfl) (by kernel_rfl) (by kernel_rfl) (fun _ _ _ h => h) (Or.inl ⟨by rfl, ?_⟩) HS0 ?_
              rotate_left
              · intro W hW; (try dsimp only at hW); go_simp; try (with_reducible rfl)
              (try simp only [List.getElem_toArray, List.getElem_cons_succ, List.getElem_cons_zero, Act.put, List.setIfInBounds_toArray, List.set_cons_zero, List.set_cons_succ])
              clear HS0
              refine run_one (i := 2) (by kernel_rfl) rfl rfl ?_
              intro K hK
              go_simp
              (with_reducible refine (jWholeQ (i : Int) Xx0 (by omega) (by omega)).mono ?_)
              rintro e Xx1 ⟨v1, rfl, hvx1, hbx1⟩
              have HBx1 := Lib.hid (below_next (HBx0.out) hbx1)
              refine hK.out _ _ (HKS.out _ HBx1.out) ?_
              clear hK K
              intro _
              obtain ⟨bwn, Awn, cwn, lwn, Dwn, dwn, mwn, rfl⟩ := hvx1.shape
              (try simp only [List.getElem_toArray, List.getElem_cons_succ, List.getElem_cons_zero, Act.put, List.setIfInBounds_toArray, List.set_cons_zero, List.set_cons_succ])
              refine run_one (i := 3) (by kernel_rfl) rfl rfl ?_
              intro K hK
              go_simp
              (with_reducible refine (HCP.out _ _ Xx1 (HQR.out.on (HBx1.out)) (hvx1)).mono ?_)
              rintro e Xx2 ⟨rfl, hbx2⟩
              have HBx2 := Lib.hid (below_next (HBx1.out) hbx2)
              refine hK.out _ _ (HKS.out _ HBx2.out) ?_
              clear hK K
              intro _
              (try simp only [List.getElem_toArray, List.getElem_cons_succ, List.getElem_cons_zero, Act.put, List.setIfInBounds_toArray, List.set_cons_zero, List.set_cons_succ])
              have HS0 := HKS.out _ (HBx2.out)
              refine wpAnyH_take (i := 4) (v := ?_) rfl (by kernel_rfl) (by kernel_rfl) (by kernel_rfl) (fun _ _ _ h => h) (Or.inl ⟨by rfl, ?_⟩) HS0 ?_
              rotate_left
              · intro W hW; (try dsimp only at hW); go_simp; try (with_reducible rfl)
              (try simp only [List.getElem_toArray, List.getElem_cons_succ, List.getElem_cons_zero, Act.put, List.setIfInBounds_toArray, List.set_cons_zero, List.set_cons_succ])
              clear HS0
              have HS0 := HKS.out _ (HBx2.out)
              refine wpAnyH_take (i := 5) (v := ?_) rfl (by kernel_rfl) (by kernel_rfl) (by kernel_rfl) (fun _ _ _ h => h) (Or.inl ⟨by rfl, ?_⟩) HS0 ?_
              rotate_left
              · intro W hW; (try dsimp only at hW); go_simp; try (with_reducible rfl)
              (try simp only [List.getElem_toArray, List.getElem_cons_succ, List.getElem_cons_zero, Act.put, List.setIfInBounds_toArray, List.set_cons_zero, List.set_cons_succ])
              clear HS0
              have HS0 := HKS.out _ (HBx2.out)
              refine wpAnyH_take (i := 6) (v := ?_) rfl (by kernel_rfl) (by kernel_rfl) (by kernel_rfl) (fun _ _ _ h => h) (Or.inl ⟨by rfl, ?_⟩) HS0 ?_
              rotate_left
              · intro W hW; (try dsimp only at hW); go_simp; try (with_reducible rfl)
              (try simp only [List.getElem_toArray, List.getElem_cons_succ, List.getElem_cons_zero, Act.put, List.setIfInBounds_toArray, List.set_cons_zero, List.set_cons_succ])
              clear HS0
              have HS0 := HKS.out _ (HBx2.out)
              refine wpAnyH_take (i := 7) (v := ?_) rfl (by kernel_rfl) (by kernel_rfl) (by kernel_rfl) (fun _ _ _ h => h) (Or.inl ⟨by rfl, ?_⟩) HS0 ?_
              rotate_left
              · intro W hW; (try dsimp only at hW); go_simp; try (with_reducible rfl)
              (try simp only [List.getElem_toArray, List.getElem_cons_succ, List.getElem_cons_zero, Act.put, List.setIfInBounds_toArray, List.set_cons_zero, List.set_cons_succ])
              clear HS0
              have HS0 := HKS.out _ (HBx2.out)
              refine wpAnyH_take (i := 9) (v := ?_) rfl (by kernel_rfl) (by kernel_rfl) (by kernel_rfl) (fun _ _ _ h => h) (Or.inl ⟨by rfl, ?_⟩) HS0 ?_
              rotate_left
              · intro W hW; (try dsimp only at hW); go_simp; try (with_reducible rfl)
              (try simp only [List.getElem_toArray, List.getElem_cons_succ, List.getElem_cons_zero, Act.put, List.setIfInBounds_toArray, List.set_cons_zero, List.set_cons_succ])
              clear HS0
              refine run_oneG (i := 8) (by kernel_rfl) rfl (by rfl) ?_
              intro K hK
              go_simp
              (with_reducible refine (HWT.out _ Xx2 (HQR.out.on (HBx2.out))).mono ?_)
              rintro e Xx3 ⟨v3, rfl, hvx3, hbx3⟩
              have HBx3 := Lib.hid (below_next (HBx2.out) hbx3)
              refine hK.out _ _ (HKS.out _ HBx3.out) ?_
              clear hK K
              intro _
              obtain ⟨bwt, Awt, cwt, lwt, Dwt, dwt, mwt, rfl⟩ := hvx3.shape
              (try simp only [List.getElem_toArray, List.getElem_cons_succ, List.getElem_cons_zero, Act.put, List.setIfInBounds_toArray, List.set_cons_zero, List.set_cons_succ])
              refine run_oneG (i := 10) (by kernel_rfl) rfl (by rfl) ?_
              intro K hK
              go_simp
              (with_reducible refine (HCQ.out _ _ Xx3 (hvx3) (HSR.out.on (HBx3.out))).mono ?_)
              rintro e Xx4 ⟨rfl, hbx4⟩
              have HBx4 := Lib.hid (below_next (HBx3.out) hbx4)
              refine hK.out _ _ (HKS.out _ HBx4.out) ?_
              clear hK K
              intro _
              (try simp only [List.getElem_toArray, List.getElem_cons_succ, List.getElem_cons_zero, Act.put, List.setIfInBounds_toArray, List.set_cons_zero, List.set_cons_succ])
              have HS0 := HKS.out _ (HBx4.out)
              refine wpAnyH_take (i := 11) (v := ?_) rfl (by kernel_rfl) (by kernel_rfl) (by kernel_rfl) (fun _ _ _ h => h) (Or.inl ⟨by rfl, ?_⟩) HS0 ?_
              rotate_left
              · intro W hW; (try dsimp only at hW); go_simp; try (with_reducible rfl)
              (try simp only [List.getElem_toArray, List.getElem_cons_succ, List.getElem_cons_zero, Act.put, List.setIfInBounds_toArray, List.set_cons_zero, List.set_cons_succ])
              clear HS0
              have HS0 := HKS.out _ (HBx4.out)
              refine wpAnyH_take (i := 12) (v := ?_) rfl (by kernel_rfl) (by kernel_rfl) (by kernel_rfl) (fun _ _ _ h => h) (Or.inl ⟨by rfl, ?_⟩) HS0 ?_
              rotate_left
              · intro W hW; (try dsimp only at hW); go_simp; try (with_reducible rfl)
              (try simp only [List.getElem_toArray, List.getElem_cons_succ, List.getElem_cons_zero, Act.put, List.setIfInBounds_toArray, List.set_cons_zero, List.set_cons_succ])
              clear HS0
              refine wpAnyH_done (by kernel_rfl) ?_ _
              refine NoPanic.normal ?_
              have HBN := Lib.hid (below_next HBW.out (HBx4.out))
              go_wp2
              go_roundw
              case rel => exact ⟨i + 1, by go_num, by omega, by omega, fun m g1 g2 => (Nat.lt_or_ge m i).elim (fun g => HALL.out m g1 g) (fun g => by rw [show m = i by omega]; exact HMISS.out), HBN.out⟩
              case measure => simp [intOf]; omega
          · have t1 : decide (o < 0) = false := decide_eq_false hol
            have HMISS := Lib.hid (show srvP q s i = false by rw [hsp, t1]; rfl)
            clear hall hbw ho hsp
            go_wp2_with fail
            refine wp_region_noPanic ?_
            refine wp_region_held_drew (S := (fun X => Below wr.heap.size wr X ∧ X.cell? ⟨w1.heap.size, 0, none⟩ = some (.bool false) ∧ X.cell? ⟨w1.heap.size, 1, none⟩ = some (.slice A1 l1.length c1) ∧ X.cell? ⟨w1.heap.size, 2, none⟩ = some (.slice A2 l2.length c2) ∧ X.cell? ⟨w3.heap.size, 0, none⟩ = some (.bool false) ∧ X.cell? ⟨w3.heap.size, 1, none⟩ = some (.slice A3 l3.length c3) ∧ X.cell? ⟨w3.heap.size, 2, none⟩ = some (.slice A4 l4.length c4))) (by kernel_rfl) (HKS.out _ (Below.refl _ wr).drew) (fun HS0 => ?_)
            have hbx0 : Below wr.heap.size wr wr.drew := (Below.refl _ _).drew
            obtain ⟨Xx0, hXx0⟩ : ∃ X, X = wr.drew := ⟨_, rfl⟩
            rw [← hXx0] at hbx0 HS0 ⊢
            have HBx0 := Lib.hid hbx0
            clear hbx0 hXx0
            refine wpAnyH_take (i := 0) (v := ?_) rfl (by kernel_rfl) (by kernel_rfl) (by kernel_rfl) (fun _ _ _ h => h) (Or.inl ⟨by rfl, ?_⟩) HS0 ?_
            rotate_left
            · intro W hW; (try dsimp only at hW); go_simp; try (with_reducible rfl)
            (try simp only [List.getElem_toArray, List.getElem_cons_succ, List.getElem_cons_zero, Act.put, List.setIfInBounds_toArray, List.set_cons_zero, List.set_cons_succ])
            refine wpAnyH_take (i := 1) (v := ?_) rfl (by kernel_rfl) (by kernel_rfl) (by kernel_rfl) (fun _ _ _ h => h) (Or.inl ⟨by rfl, ?_⟩) HS0 ?_
            rotate_left
            · intro W hW; (try dsimp only at hW); go_simp; try (with_reducible rfl)
            (try simp only [List.getElem_toArray, List.getElem_cons_succ, List.getElem_cons_zero, Act.put, List.setIfInBounds_toArray, List.set_cons_zero, List.set_cons_succ])
            clear HS0
            refine run_one (i := 2) (by kernel_rfl) rfl rfl ?_
            intro K hK
            go_simp
            (with_reducible refine (jWholeQ (i : Int) Xx0 (by omega) (by omega)).mono ?_)
            rintro e Xx1 ⟨v1, rfl, hvx1, hbx1⟩
            have HBx1 := Lib.hid (below_next (HBx0.out) hbx1)
            refine hK.out _ _ (HKS.out _ HBx1.out) ?_
            clear hK K
            intro _
            obtain ⟨bwn, Awn, cwn, lwn, Dwn, dwn, mwn, rfl⟩ := hvx1.shape
            (try simp only [List.getElem_toArray, List.getElem_cons_succ, List.getElem_cons_zero, Act.put, List.setIfInBounds_toArray, List.set_cons_zero, List.set_cons_succ])
            refine run_one (i := 3) (by kernel_rfl) rfl rfl ?_
            intro K hK
            go_simp
            (with_reducible refine (HCP.out _ _ Xx1 (HQR.out.on (HBx1.out)) (hvx1)).mono ?_)
            rintro e Xx2 ⟨rfl, hbx2⟩
            have HBx2 := Lib.hid (below_next (HBx1.out) hbx2)
            refine hK.out _ _ (HKS.out _ HBx2.out) ?_
            clear hK K
            intro _
            (try simp only [List.getElem_toArray, List.getElem_cons_succ, List.getElem_cons_zero, Act.put, List.setIfInBounds_toArray, List.set_cons_zero, List.set_cons_succ])
            have HS0 := HKS.out _ (HBx2.out)
            refine wpAnyH_take (i := 4) (v := ?_) rfl (by kernel_rfl) (by kernel_rfl) (by kernel_rfl) (fun _ _ _ h => h) (Or.inl ⟨by rfl, ?_⟩) HS0 ?_
            rotate_left
            · intro W hW; (try dsimp only at hW); go_simp; try (with_reducible rfl)
            (try simp only [List.getElem_toArray, List.getElem_cons_succ, List.getElem_cons_zero, Act.put, List.setIfInBounds_toArray, List.set_cons_zero, List.set_cons_succ])
            clear HS0
            have HS0 := HKS.out _ (HBx2.out)
            refine wpAnyH_take (i := 5) (v := ?_) rfl (by kernel_rfl) (by kernel_rfl) (by kernel_rfl) (fun _ _ _ h => h) (Or.inl ⟨by rfl, ?_⟩) HS0 ?_
            rotate_left
            · intro W hW; (try dsimp only at hW); go_simp; try (with_reducible rfl)
            (try simp only [List.getElem_toArray, List.getElem_cons_succ, List.getElem_cons_zero, Act.put, List.setIfInBounds_toArray, List.set_cons_zero, List.set_cons_succ])
            clear HS0
            have HS0 := HKS.out _ (HBx2.out)
            refine wpAnyH_take (i := 6) (v := undef) rfl (by kernel_rfl) (by kernel_rfl) (by kernel_rfl) (fun _ _ _ h => h) (Or.inr ⟨by rfl, rfl⟩) HS0 ?_
            (try simp only [List.getElem_toArray, List.getElem_cons_succ, List.getElem_cons_zero, Act.put, List.setIfInBounds_toArray, List.set_cons_zero, List.set_cons_succ])
            clear HS0
            have HS0 := HKS.out _ (HBx2.out)
            refine wpAnyH_take (i := 7) (v := undef) rfl (by kernel_rfl) (by kernel_rfl) (by kernel_rfl) (fun _ _ _ h => h) (Or.inr ⟨by rfl, rfl⟩) HS0 ?_
            (try simp only [List.getElem_toArray, List.getElem_cons_succ, List.getElem_cons_zero, Act.put, List.setIfInBounds_toArray, List.set_cons_zero, List.set_cons_succ])
            clear HS0
            have HS0 := HKS.out _ (HBx2.out)
            refine wpAnyH_take (i := 8) (v := undef) rfl (by kernel_rfl) (by kernel_rfl) (by kernel_rfl) (fun _ _ _ h => h) (Or.inr ⟨by rfl, rfl⟩) HS0 ?_
            (try simp only [List.getElem_toArray, List.getElem_cons_succ, List.getElem_cons_zero, Act.put, List.setIfInBounds_toArray, List.set_cons_zero, List.set_cons_succ])
            clear HS0
            have HS0 := HKS.out _ (HBx2.out)
            refine wpAnyH_take (i := 9) (v := undef) rfl (by kernel_rfl) (by kernel_rfl) (by kernel_rfl) (fun _ _ _ h => h) (Or.inr ⟨by rfl, rfl⟩) HS0 ?_
            (try simp only [List.getElem_toArray, List.getElem_cons_succ, List.getElem_cons_zero, Act.put, List.setIfInBounds_toArray, List.set_cons_zero, List.set_cons_succ])
            clear HS0
            have HS0 := HKS.out _ (HBx2.out)
            refine wpAnyH_take (i := 10) (v := undef) rfl (by kernel_rfl) (by kernel_rfl) (by kernel_rfl) (fun _ _ _ h => h) (Or.inr ⟨by rfl, rfl⟩) HS0 ?_
            (try simp only [List.getElem_toArray, List.getElem_cons_succ, List.getElem_cons_zero, Act.put, List.setIfInBounds_toArray, List.set_cons_zero, List.set_cons_succ])
            clear HS0
            have HS0 := HKS.out _ (HBx2.out)
            refine wpAnyH_take (i := 11) (v := undef) rfl (by kernel_rfl) (by kernel_rfl) (by kernel_rfl) (fun _ _ _ h => h) (Or.inr ⟨by rfl, rfl⟩) HS0 ?_
            (try simp only [List.getElem_toArray, List.getElem_cons_succ, List.getElem_cons_zero, Act.put, List.setIfInBounds_toArray, List.set_cons_zero, List.set_cons_succ])
            clear HS0
            have HS0 := HKS.out _ (HBx2.out)
            refine wpAnyH_take (i := 12) (v := ?_) rfl (by kernel_rfl) (by kernel_rfl) (by kernel_rfl) (fun _ _ _ h => h) (Or.inl ⟨by rfl, ?_⟩) HS0 ?_
            rotate_left
            · intro W hW; (try dsimp only at hW); go_simp; try (with_reducible rfl)
            (try simp only [List.getElem_toArray, List.getElem_cons_succ, List.getElem_cons_zero, Act.put, List.setIfInBounds_toArray, List.set_cons_zero, List.set_cons_succ])
            clear HS0
            refine wpAnyH_done (by kernel_rfl) ?_ _
            refine NoPanic.normal ?_
            have HBN := Lib.hid (below_next HBW.out (HBx2.out))
            go_wp2
            go_roundw
            case rel => exact ⟨i + 1, by go_num, by omega, by omega, fun m g1 g2 => (Nat.lt_or_ge m i).elim (fun g => HALL.out m g1 g) (fun g => by rw [show m = i by omega]; exact HMISS.out), HBN.out⟩
            case measure => simp [intOf]; omega
        · obtain rfl : i = 51 := by omega
          have HVE := Lib.hid (HNONE.out (fun m g1 g2 => HALL.out m g1 (by omega)))
          clear hall hbw
          go_wp2
          refine bodyPost_ret (v := .tuple #[.int .i64 0, .int .i64 4]) (by simp [results, Tryz.results23, go_sem]) rfl ⟨by rw [HVE.out.1, HVE.out.2], below_next HB4.out HBW.out⟩
    · have HSH2 := Lib.hid (fun W => (show Calls Tryz.prog 30 #[.agg #[.string Sc, .string Sd], .func (.func 69) #[] #[]] W _ from jShort_bad .share Sc Sd c d W hSc hSd hc hd hs2))
      obtain ⟨hv, he⟩ := srv_bad (a := a) (b := b) (d := c) (e := d) (by rw [hsc]; exact hs2)
      rw [hv, he, hsc]
      obtain ⟨cc, hcc⟩ : ∃ cc, cc = shC .share c d := ⟨_, rfl⟩
      rw [← hcc] at HSH2 hs2 ⊢
      have t2 : (cc != 0) = true := by rw [bne_iff_ne]; exact hs2
      clear hsc hs1 hs2 hv he hcc hSa hSb hSc hSd ha hb hc hd
      go_enter Tryz.func23, Tryz.ntmps23
      go_wp2_with fail
      rw [← hW0]
      clear hW0
      (with_reducible refine (HSH.out _).mono ?_)
      rintro e w1 ⟨A1, c1, l1, A2, c2, l2, rfl, h1, h2, hb1⟩
      obtain ⟨W2, hW2⟩ : ∃ W2, W2 = w1.alloc (.cells #[.bool false, .slice A1 l1.length c1, .slice A2 l2.length c2] 53) := ⟨_, rfl⟩
      have hb12 : Below w1.heap.size w1 W2 := by rw [hW2]; exact (Below.refl _ w1).alloc (Nat.le_refl _) _
      have HB2 := Lib.hid (below_next hb1 hb12)
      clear p0 p1 p2 p3 h1 h2 hb1 hb12
      obtain ⟨p0, p1, p2, p3⟩ := HK.out W2 HB2.out
      have o2 := p2
      have o3 := p3
      rw [hW2] at o2 o3
      clear p0 p1 p2 p3
      go_wp2_with fail
      rw [← hW2]
      clear hW2 o2 o3
      (with_reducible refine (HSH2.out _).mono ?_)
      rintro e w3 ⟨rfl, hb3⟩
      have HB3 := Lib.hid (fun o => ((below_next HST0.out.below (below_next HB2.out hb3)).alloc (below_next HST0.out.below (below_next HB2.out hb3)).size o))
      clear hb3
      go_wp2
      refine bodyPost_ret (v := .tuple #[.int .i64 0, .int .i64 cc]) (by simp [results, Tryz.results23, go_sem]) rfl ⟨rfl, HB3.out _⟩
  · have HSH := Lib.hid (fun W => (show Calls Tryz.prog 30 #[.agg #[.string Sa, .string Sb], .func (.func 45) #[] #[]] W _ from jShort_bad .positive Sa Sb a b W hSa hSb ha hb hs1))
    have hsc : srvC a b c d = shC .positive a b := by unfold srvC; rw [if_pos hs1]
    obtain ⟨hv, he⟩ := srv_bad (a := a) (b := b) (d := c) (e := d) (by rw [hsc]; exact hs1)
    rw [hv, he, hsc]
    obtain ⟨cc, hcc⟩ : ∃ cc, cc = shC .positive a b := ⟨_, rfl⟩
    rw [← hcc] at HSH hs1 ⊢
    have t2 : (cc != 0) = true := by rw [bne_iff_ne]; exact hs1
    clear hsc hs1 hv he hcc hSa hSb hSc hSd ha hb hc hd
    go_enter Tryz.func23, Tryz.ntmps23
    go_wp2_with fail
    rw [← hW0]
    clear hW0
    (with_reducible refine (HSH.out _).mono ?_)
    rintro e w1 ⟨rfl, hb1⟩
    have HB3 := Lib.hid (fun o => ((below_next HST0.out.below hb1).alloc (below_next HST0.out.below hb1).size o))
    clear hb1
    go_wp2
    refine bodyPost_ret (v := .tuple #[.int .i64 0, .int .i64 cc]) (by simp [results, Tryz.results23, go_sem]) rfl ⟨rfl, HB3.out _⟩
end Go.Proofs.YtpmnhdgajkickaaGreatDoor
