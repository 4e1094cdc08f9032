/- Package judge: Erlang's formulas: blocked, waiting. -/
import Derived.Test.YtpmnhdgajkickaaGreatDoorJSum
import Derived.Test.YtpmnhdgajkickaaGreatDoorErlV
namespace Go.Proofs.YtpmnhdgajkickaaGreatDoor
open Go Go.RowKit Go.Proofs

theorem er_sz {a : Rat} (h0 : frS a = false) (h1 : 0 < frN a) (h2 : frN a ≤ 1000000) (h3 : a.den ≤ 1000000) {K : Nat} (hK : 101 ≤ K) (c : Nat) (hc : c ≤ 50) : frN (erB a c) < W64 ^ K ∧ (erB a c).den < W64 ^ K := by
  obtain ⟨-, -, u1, u2⟩ := er_parts h0 h1 h2 h3 c hc
  have h4 := m8_pow (B := W64) (by unfold W64; decide) (by unfold W64; omega) c
  have h5 : W64 ^ (2 * c) < W64 ^ K := Nat.pow_lt_pow_right (by unfold W64; omega) (by omega)
  omega
set_option maxHeartbeats 8000000 in
set_option maxRecDepth 100000 in
theorem jBlocked_any (c : Nat) (u : Value) (a : Rat) (w : World) (hc : c ≤ 50) (hu : JQ w u a 1) (h0 : frS a = false) (h1 : 0 < frN a) (h2 : frN a ≤ 1000000) (h3 : a.den ≤ 1000000) : Calls Tryz.prog 46 #[.int .i64 (c : Nat), u] w (JQPost (erB a c) 101 w) := by
  obtain ⟨sz, hK1, hK2⟩ : ∃ sz, 101 ≤ sz ∧ sz ≤ 101 := ⟨101, Nat.le_refl _, Nat.le_refl _⟩
  have HSZ := Lib.hid (fun i (hi : i ≤ 50) => er_sz h0 h1 h2 h3 hK1 i hi)
  have hpos := pos_of h0 h1
  have HPOS := Lib.hid hpos
  rw [show (101 : Nat) = sz by omega]
  obtain ⟨bu, U1, d1, k1, U2, d2, k2, rfl⟩ := hu.shape
  obtain ⟨W0, hW0⟩ : ∃ W0, W0 = (w.alloc (.cells #[.bool bu, .slice U1 k1.length d1, .slice U2 k2.length d2] 53)).alloc (.cells #[.bool false, .slice none 0 0, .slice none 0 0] 53) := ⟨_, rfl⟩
  have HST0 := Lib.hid (show St w W0 [(w.heap.size, .cells #[.bool bu, .slice U1 k1.length d1, .slice U2 k2.length d2] 53 (0, 0)), (w.heap.size + 1, .cells #[.bool false, .slice none 0 0, .slice none 0 0] 53 (0, 0))] by rw [hW0]; exact ((St.start w).alloc _ _ rfl).alloc _ _ (by simp))
  have HX0 := Lib.hid (show JBox W0 (w.heap.size + 1) from HST0.out.at 1 rfl)
  have HK := Lib.hid (show ∀ X, Below W0.heap.size W0 X → X.cell? ⟨w.heap.size, 0, none⟩ = some (.bool bu) ∧ X.cell? ⟨w.heap.size, 1, none⟩ = some (.slice U1 k1.length d1) ∧ X.cell? ⟨w.heap.size, 2, none⟩ = some (.slice U2 k2.length d2) from fun X hX => ⟨(HST0.out.call hX).cell 0 0 rfl rfl, (HST0.out.call hX).cell 0 1 rfl rfl, (HST0.out.call hX).cell 0 2 rfl rfl⟩)
  have HU := Lib.hid (hu.on HST0.out.below)
  have HW := Lib.hid (fun W => jWholeQ 1 W (by omega) (by omega))
  have hs0 : W0.heap.size = w.heap.size + 1 + 1 := by rw [hW0]; simp
  clear hu h0 h1 h2 h3 hpos
  go_enter Tryz.func46, Tryz.ntmps46
  go_wp2_with fail
  rw [← hW0]
  clear hW0
  (with_reducible refine (HW.out _).mono ?_)
  rintro e w1 ⟨v1, rfl, hv1, hb1⟩
  obtain ⟨bz, Z1, z1, t1, Z2, z2, t2, rfl⟩ := hv1.shape
  have hvar := JVQ.laid hv1
  obtain ⟨W2, hW2⟩ : ∃ W2, W2 = w1.alloc (.cells #[.bool bz, .slice Z1 t1.length z1, .slice Z2 t2.length z2] 53) := ⟨_, rfl⟩
  rw [← hW2] at hvar
  have HVAR := Lib.hid hvar
  have HB2 := Lib.hid (show Below W0.heap.size W0 W2 by rw [hW2]; exact hb1.alloc hb1.size _)
  have hle1 := hb1.size
  clear hv1 hb1 hvar
  go_wp2
  rw [← hW2]
  clear hW2
  go_loopw [6] (fun kv wr => ∃ i : Nat, kv = .int .i64 (i : Nat) ∧ 1 ≤ i ∧ i ≤ c + 1 ∧ JVQ wr w1.heap.size (erB a (i - 1)) sz ∧ Below W0.heap.size W0 wr) (fun kv _ => c + 1 - (intOf kv).toNat)
  case atStart => exact ⟨1, rfl, by omega, by omega, by obtain ⟨b, A1, c1, l1, A2, c2, l2, e, h⟩ := HVAR.out; rw [show (1 : Nat) - 1 = 0 from rfl, erB_zero]; exact ⟨b, A1, c1, l1, A2, c2, l2, e, h.mono (by omega)⟩, HB2.out⟩
  case round =>
    obtain ⟨i, rfl, hi1, hi2, hvar, hbw⟩ := hrel
    obtain ⟨bo, D1, e1, m1, D2, e2, m2, hget, hjo⟩ := hvar.get
    have HVW := Lib.hid hvar
    have HG := Lib.hid hget
    have HBW := Lib.hid hbw
    obtain ⟨f0, f1, f2⟩ := HK.out wr hbw
    obtain ⟨g0, g1, g2, q0, q1, q2, hlt1⟩ := hget wr (Below.refl _ _)
    by_cases hlt : i ≤ c
    · skip
      have HNE := Lib.hid (show ((i : Int) : Rat) + a * erB a (i - 1) ≠ 0 by
        have := erB_one HPOS.out (i - 1)
        rw [show i - 1 + 1 = i by omega] at this
        exact this)
      have HEQ := Lib.hid (show a * erB a (i - 1) / (((i : Int) : Rat) + a * erB a (i - 1)) = erB a i by
        have := erB_succ HPOS.out (i - 1)
        rw [show i - 1 + 1 = i by omega] at this
        exact this.symm)
      have HTM := Lib.hid (jTimesQ 1 sz _ _ a (erB a (i - 1)) wr (by omega) (by omega) (HU.out.on hbw) hjo)
      clear hvar hget hjo hbw
      go_wp2_with fail
      (with_reducible refine (HTM.out).mono ?_)
      rintro e w4 ⟨v4, rfl, hv4, hb4⟩
      obtain ⟨bx, X1, x1, y1, X2, x2, y2, rfl⟩ := hv4.shape
      have hx5 := JVQ.laid hv4
      obtain ⟨W5, hW5⟩ : ∃ W5, W5 = w4.alloc (.cells #[.bool bx, .slice X1 y1.length x1, .slice X2 y2.length x2] 53) := ⟨_, rfl⟩
      rw [← hW5] at hx5
      have hb45 : Below w4.heap.size w4 W5 := by rw [hW5]; exact (Below.refl _ w4).alloc (Nat.le_refl _) _
      have HX5 := Lib.hid (hv4.on hb45)
      have HB5 := Lib.hid (below_next hb4 hb45)
      obtain ⟨b5, E1, n1, o1, E2, n2, o2, eX, -⟩ := hx5
      have HKS := Lib.hid (show ∀ X, Below W5.heap.size W5 X → (fun X => Below W5.heap.size W5 X ∧ X.cell? ⟨w4.heap.size, 0, none⟩ = some (.bool bx) ∧ X.cell? ⟨w4.heap.size, 1, none⟩ = some (.slice X1 y1.length x1) ∧ X.cell? ⟨w4.heap.size, 2, none⟩ = some (.slice X2 y2.length x2)) X from fun X hX => by
        have e0 : W5.heap[w4.heap.size]? = some (.cells #[.bool bx, .slice X1 y1.length x1, .slice X2 y2.length x2] 53 (0, 0)) := by rw [hW5]; exact alloc_at _ _ _ rfl
        have e := (hX.block _ (heap_lt e0)).trans e0
        exact ⟨hX, by rw [cellsAt e]; rfl, by rw [cellsAt e]; rfl, by rw [cellsAt e]; rfl⟩)
      clear hv4 hb4 hb45 eX f0 f1 f2 g0 g1 g2 q0 q1 q2 HTM
      go_wp2_with fail
      rw [← hW5]
      clear hW5
      refine wp_region_last (init := #[_, _, _, _, _, _, _, _]) (last := _) rfl (by kernel_rfl) (by kernel_rfl) (by kernel_rfl) ?_
      show wpAny _ _ _ _ 8 (Array.replicate 8 false) _ _
      refine wpAny_of_held (S := (fun X => Below W5.heap.size W5 X ∧ X.cell? ⟨w4.heap.size, 0, none⟩ = some (.bool bx) ∧ X.cell? ⟨w4.heap.size, 1, none⟩ = some (.slice X1 y1.length x1) ∧ X.cell? ⟨w4.heap.size, 2, none⟩ = some (.slice X2 y2.length x2))) _ _ _ _ ?_
      have HS0 := HKS.out _ (Below.refl _ W5).drew
      refine wpAnyH_take (i := 0) (v := ?_) rfl (by kernel_rfl) (by kernel_rfl) (by kernel_rfl) (fun _ _ _ h => h) (Or.inl ⟨by rfl, ?_⟩) HS0 ?_
      rotate_left
      · intro W hW; (try dsimp only at hW); go_simp; try (with_reducible rfl)
      (try simp only [List.getElem_toArray, List.getElem_cons_succ, List.getElem_cons_zero, Act.put, List.setIfInBounds_toArray, List.set_cons_zero, List.set_cons_succ])
      refine wpAnyH_take (i := 1) (v := ?_) rfl (by kernel_rfl) (by kernel_rfl) (by kernel_rfl) (fun _ _ _ h => h) (Or.inl ⟨by rfl, ?_⟩) HS0 ?_
      rotate_left
      · intro W hW; (try dsimp only at hW); go_simp; try (with_reducible rfl)
      (try simp only [List.getElem_toArray, List.getElem_cons_succ, List.getElem_cons_zero, Act.put, List.setIfInBounds_toArray, List.set_cons_zero, List.set_cons_succ])
      refine wpAnyH_take (i := 3) (v := ?_) rfl (by kernel_rfl) (by kernel_rfl) (by kernel_rfl) (fun _ _ _ h => h) (Or.inl ⟨by rfl, ?_⟩) HS0 ?_
      rotate_left
      · intro W hW; (try dsimp only at hW); go_simp; try (with_reducible rfl)
      (try simp only [List.getElem_toArray, List.getElem_cons_succ, List.getElem_cons_zero, Act.put, List.setIfInBounds_toArray, List.set_cons_zero, List.set_cons_succ])
      refine run_one (i := 2) (by kernel_rfl) rfl rfl ?_
      intro K hK
      go_simp
      refine (jWholeQ (i : Int) _ (by omega) (by omega)).mono ?_
      rintro e w7 ⟨v7, rfl, hv7, hb7⟩
      refine hK.out _ _ (HKS.out _ (below_next HS0.1 hb7)) ?_
      clear hK K
      have HSP := HS0
      clear HS0
      intro HS0
      obtain ⟨b7, P1, p1, r1, P2, p2, r2, rfl⟩ := hv7.shape
      refine run_one (i := 4) (by kernel_rfl) rfl rfl ?_
      intro K hK
      go_simp
      obtain ⟨W8, hW8⟩ : ∃ W8, W8 = w7.alloc (.cells #[.bool b7, .slice P1 r1.length p1, .slice P2 r2.length p2, .bool bx, .slice X1 y1.length x1, .slice X2 y2.length x2] 53) := ⟨_, rfl⟩
      have hb8 : Below w7.heap.size w7 W8 := by rw [hW8]; exact (Below.refl _ w7).alloc (Nat.le_refl _) _
      have hb58 := below_next HS0.1 hb8
      have HT8 := Lib.hid (show JTwo W8 w7.heap.size ((i : Int) : Rat) (a * erB a (i - 1)) 1 (1 + sz) from ⟨b7, P1, p1, r1, P2, p2, r2, bx, X1, x1, y1, X2, x2, y2, _, by rw [hW8]; exact alloc_at _ _ _ rfl, hv7.on hb8, HX5.out.on hb58⟩)
      rw [← hW8]
      clear hW8
      refine hK.out _ _ (HKS.out _ hb58) ?_
      clear hK K hb58
      have HSP2 := HS0
      clear HS0
      intro HS0
      refine run_one (i := 5) (by kernel_rfl) rfl rfl ?_
      intro K hK
      go_simp
      refine (jSum_any w7.heap.size 1 (1 + sz) _ _ _ (by omega) (by omega) HT8.out).mono ?_
      rintro e w9 ⟨v9, rfl, hv9, hb9⟩
      refine hK.out _ _ (HKS.out _ (below_next HS0.1 hb9)) ?_
      clear hK K
      have HSP := HS0
      clear HS0
      intro HS0
      refine run_one (i := 6) (by kernel_rfl) rfl rfl ?_
      intro K hK
      go_simp
      refine (jOverQ (1 + sz) (1 + (1 + sz) + 3) _ _ _ _ _ (by omega) (by omega) (HX5.out.on HS0.1) hv9 HNE.out).mono ?_
      rintro e w10 ⟨v10, rfl, hv10, hb10⟩
      refine hK.out _ _ (HKS.out _ (below_next HS0.1 hb10)) ?_
      clear hK K
      have HSP := HS0
      clear HS0
      intro HS0
      refine run_one (i := 7) (by kernel_rfl) rfl rfl ?_
      intro K hK
      go_simp
      refine (jLowestQ (1 + sz + (1 + (1 + sz) + 3)) _ _ _ (by omega) hv10).mono ?_
      rintro e w11 ⟨v11, rfl, hv11, hb11⟩
      refine hK.out _ _ (HKS.out _ (below_next HS0.1 hb11)) ?_
      clear hK K
      have HSP := HS0
      clear HS0
      intro HS0
      refine wpAnyH_done (by kernel_rfl) ?_ _
      simp only [LastQ]
      rw [HEQ.out] at hv11
      have hq11 := JQ.of hv11 (HSZ.out i (by omega)).1 (HSZ.out i (by omega)).2
      have hb511 := below_next HB5.out HS0.1
      obtain ⟨b11, Q1, p11, r11, Q2, p12, r12, rfl⟩ := hq11.shape
      obtain ⟨g0, g1, g2, q0, q1, q2, hlt1⟩ := HG.out w11 hb511
      obtain ⟨bY, Y3, y3, t3, Y4, y4, t4, eX, -⟩ := HVW.out.on hb511
      have HS5 := Lib.hid (JVQ.set eX hq11)
      have HBN := Lib.hid ((((below_next HBW.out hb511).setCell (p := ⟨w1.heap.size, 0, none⟩) hle1 (.bool b11)).setCell (p := ⟨w1.heap.size, 1, none⟩) hle1 (.slice Q1 r11.length p11)).setCell (p := ⟨w1.heap.size, 2, none⟩) hle1 (.slice Q2 r12.length p12))
      clear HS0 HSP HSP2 hv7 hv9 hv10 hv11 hq11 hb7 hb8 hb9 hb10 hb11 hb511 eX
      go_simp
      go_wp2
      go_roundw
      case rel => exact ⟨i + 1, by go_num, by omega, by omega, by rw [show i + 1 - 1 = i by omega]; exact HS5.out, HBN.out⟩
      case measure => simp [intOf]; omega
    · obtain rfl : i = c + 1 := by omega
      rw [show c + 1 - 1 = c by omega] at hjo
      obtain ⟨k0, k1, k2, s0, s1, s2, hlt⟩ := (HX0.out.on hbw).facts
      have HFN := Lib.hid (jq_ret (HX0.out.on hbw) hjo (below_next HST0.out.below hbw) (by omega) (fr3 (w := wr) (B := w.heap.size + 1) (.bool bo) (.slice D1 m1.length e1) (.slice D2 m2.length e2)))
      clear hvar hget hjo hbw
      go_wp2
      refine bodyPost_ret (v := .agg #[.bool bo, .slice D1 m1.length e1, .slice D2 m2.length e2]) (by simp [results, Tryz.results46, go_sem, k0, k1, k2]) rfl ⟨_, rfl, HFN.out.1, HFN.out.2⟩
end Go.Proofs.YtpmnhdgajkickaaGreatDoor
