/- wire's reader of messages: names of the head. Printed by wip/gen_core.py. -/
import Derived.Test.YthfloagpmmohkaaGreatDoorCoreE
namespace Go.Proofs.YthfloagpmmohkaaGreatDoor
open Go Go.RowKit Go.Proofs

theorem infoCP : (Tryz.prog.info? 69).map (fun i => (i.zero, i.size, i.bytes)) = some (some (.agg #[.string ⟨#[]⟩, .string ⟨#[]⟩]), 2, 32) := by kernel_rfl
theorem buildPr (a : ByteArray) (W : World) : (Instr.build 69 #[(0, .string a)]).run Tryz.prog W = .ok (.agg #[.string a, .string ⟨#[]⟩]) W := by kernel_rfl
set_option maxHeartbeats 4000000 in
set_option maxRecDepth 100000 in
theorem alike_any (a b : List UInt8) (w : World) (ha : a.length ≤ 140737488355328) (hb : b.length ≤ 140737488355328) : Calls Tryz.prog 92 #[tx a, tx b] w fun e w' => e = .returned (.bool (Cr.sml a == Cr.sml b)) ∧ Below w.heap.size w w' := by
  have HA := Lib.hid (small_any a w ha)
  have HB := Lib.hid (fun W => small_any b W hb)
  go_enter Tryz.func92, Tryz.ntmps92
  go_wp2_with fail
  (with_reducible refine (HA.out).mono ?_)
  rintro e w1 ⟨rfl, hb1⟩
  go_wp2_with fail
  (with_reducible refine (HB.out w1).mono ?_)
  rintro e w2 ⟨rfl, hb2⟩
  have HBB := Lib.hid (show Below w.heap.size w w2 from hb1.trans (hb2.mono hb1.size))
  clear hb1 hb2
  go_wp2
  go_ret
  exact ⟨by simp, HBB.out⟩
theorem Cr.nmA_eqs (c : Cr) : c.nmA.kind = c.nmK ∧ c.nmA.begun = c.begun ∧ c.nmA.line = c.line ∧ c.nmA.req = c.req ∧ c.nmA.m.status = c.m.status ∧ c.nmA.word = c.word := by
  unfold Cr.nmA Cr.fail
  split
  · rename_i h
    rw [h]
    split
    · split <;> simp
    · simp
  · simp
theorem Cr.nmB_eqs (c : Cr) : c.nmB.kind = c.kind ∧ c.nmB.line = c.line ∧ c.nmB.req = c.req ∧ c.nmB.m = c.m := by
  unfold Cr.nmB Cr.fail
  split
  · split <;> simp
  · simp
section
variable {T : TypeId} {ex : List Value} {K base : Nat}
theorem CrR.boxH (hT : TyOk T) {w w2 : World} {c : Cr} {v : CrV} (h : CrR T ex w K base c v) (hbg : c.begun = true) {o : Obj} (hg : (w.alloc o).grownBy w2 v.vh.ownBlock) : w2.heap[K]? = some (.cells (crC c v ++ ex).toArray T (0, 0)) ∧ Fr (fun i => some i = v.vh.ownBlock) w w2 := by
  have hf : Fr (fun i => some i = v.vh.ownBlock) w w2 := ((Fr.refl (fun i => some i = v.vh.ownBlock) w).alloc o).trans (Fr.of_grown hg) (fun _ _ h => h)
  exact ⟨(hf.block K h.lt (fun e => by obtain ⟨c0, h1⟩ := own_type (h.head hbg) e; exact hT.nK h h1 hT.p.symm rfl)).trans h.box, hf⟩
set_option maxHeartbeats 4000000 in
set_option maxRecDepth 100000 in
theorem cNamed_any (hT : TyOk T) (c : Cr) (v : CrV) (w : World) (h : CrR T ex w K base c v) (hbg : c.begun = true) (hl : c.word.length ≤ 1000000000) (hhl : c.m.head.length ≤ 1000) :
    Calls Tryz.prog 189 #[.pointer (some ⟨K, 0, none⟩)] w (CrP T ex K base c.named w) := by
  obtain ⟨ip, hip, hpz0, hpz1, hpz2⟩ := info_parts infoCP
  obtain ⟨A, k, hvw, hnc, hcm, hA⟩ := ownsRow_shape h.word
  have k11 := h.cell 11 (u := v.vw) rfl
  rw [hvw] at k11
  have HO := h.word
  rw [hvw] at HO
  have hcvw := conv_own HO
  obtain ⟨n, hn⟩ : ∃ n, n = c.word.length := ⟨_, rfl⟩
  rw [← hn] at hcvw k11
  obtain ⟨nm, hnm⟩ : ∃ x, x = c.word := ⟨_, rfl⟩
  have b13 : w.cell? ⟨K, 13, none⟩ = some (.int .i64 c.kind) := h.cell 13 rfl
  have z13 := h.frz 13
  have HP0 := Lib.hid (h.put hT (c' := { c with kind := 0 }) 13 (.int .i64 0) rfl (by omega) rfl (fun hb => ⟨hb, rfl, rfl⟩) rfl)
  obtain ⟨w0, hw0⟩ : ∃ W, W = w.setCell ⟨K, 13, none⟩ (.int .i64 0) := ⟨_, rfl⟩
  obtain ⟨c0, hc0⟩ : ∃ x, x = { c with kind := 0 } := ⟨_, rfl⟩
  rw [← hw0, ← hc0] at HP0
  obtain ⟨cA, hcA⟩ : ∃ x, x = c.nmA := ⟨_, rfl⟩
  obtain ⟨kd, hkd⟩ : ∃ x, x = c.nmK := ⟨_, rfl⟩
  obtain ⟨cE, hcE⟩ : ∃ x, x = cA.nmE kd := ⟨_, rfl⟩
  have E := Lib.hid (show c.named = { cE with closed := false }.goOn 9 by unfold Cr.named; rw [← hcA, ← hkd, ← hcE])
  have HCA := Lib.hid hcA
  have HKD := Lib.hid hkd
  have HCE := Lib.hid hcE
  have HC0 := Lib.hid hc0
  have HNM := Lib.hid hnm
  have HAL := Lib.hid (fun W l (hl2 : l.length ≤ 100) => alike_any nm l W (by rw [hnm, ← hn]; rw [← hn] at hl; omega) (by omega))
  rw [← hnm] at hcvw
  rw [← hn] at hl
  have HBG := Lib.hid hbg
  have HHL := Lib.hid hhl
  clear h hvw hnc hcm hA HO hn hc0 hcA hkd hcE hnm hbg hhl
  go_enter Tryz.func189, Tryz.ntmps189
  go_upto_block 0 with fail
  rw [← hw0]
  clear k11 b13 z13 hw0 hcvw
  go_cut [] (fun wc => ∃ v', CrR T ex wc K base cA v' ∧ CrF K w wc)
  case first =>
    go_wp2_with fail
    (with_reducible refine (HAL.out w0 [67, 111, 110, 116, 101, 110, 116, 45, 76, 101, 110, 103, 116, 104] (by simp)).mono ?_)
    rintro e w1 ⟨rfl, hb1⟩
    obtain ⟨hr1, hf1⟩ := HP0.out.1.old hb1
    have HF1 := Lib.hid (HP0.out.2.trans hf1)
    have HR1 := Lib.hid hr1
    clear hb1 hr1 hf1
    obtain ⟨t1, ht1⟩ : ∃ t, t = (Cr.sml nm == Cr.sml [67, 111, 110, 116, 101, 110, 116, 45, 76, 101, 110, 103, 116, 104]) := ⟨_, rfl⟩
    rw [← ht1]
    have e1 : Cr.sml [67, 111, 110, 116, 101, 110, 116, 45, 76, 101, 110, 103, 116, 104] = Cr.conLen := by decide +kernel
    rw [e1] at ht1
    have HT1 := Lib.hid ht1
    clear ht1 e1
    cases hb1 : t1 with
    | true =>
      have E1 := Lib.hid (show c.nmK = 1 by unfold Cr.nmK; rw [← HNM.out, if_pos (by have := HT1.out; rw [hb1] at this; simpa using this.symm)])
      have b13 : w1.cell? ⟨K, 13, none⟩ = some (.int .i64 c0.kind) := HR1.out.cell 13 rfl
      have z13 := HR1.out.frz 13
      have HQ := Lib.hid (HR1.out.put hT (c' := { c with kind := 1 }) 13 (.int .i64 1) (by rw [HC0.out]; rfl) (by omega) (by rw [HC0.out]) (fun hb => by rw [HC0.out]; exact ⟨hb, rfl, rfl⟩) (by rw [HC0.out]))
      clear hb1
      go_wp2_with fail
      go_meet
      have e2 : cA = { c with kind := 1 } := by rw [HCA.out]; unfold Cr.nmA; rw [E1.out, if_neg (by simp)]
      rw [e2]
      exact ⟨_, HQ.out.1, HF1.out.trans HQ.out.2⟩
    | false =>
      go_wp2_with fail
      (with_reducible refine (HAL.out w1 [84, 114, 97, 110, 115, 102, 101, 114, 45, 69, 110, 99, 111, 100, 105, 110, 103] (by simp)).mono ?_)
      rintro e w2 ⟨rfl, hb2⟩
      obtain ⟨hr2, hf2⟩ := HR1.out.old hb2
      have HF2 := Lib.hid (HF1.out.trans hf2)
      have HR2 := Lib.hid hr2
      clear hb2 hr2 hf2
      obtain ⟨t2, ht2⟩ : ∃ t, t = (Cr.sml nm == Cr.sml [84, 114, 97, 110, 115, 102, 101, 114, 45, 69, 110, 99, 111, 100, 105, 110, 103]) := ⟨_, rfl⟩
      rw [← ht2]
      have e2 : Cr.sml [84, 114, 97, 110, 115, 102, 101, 114, 45, 69, 110, 99, 111, 100, 105, 110, 103] = Cr.traEnc := by decide +kernel
      rw [e2] at ht2
      have HT2 := Lib.hid ht2
      clear ht2 e2
      cases hb2 : t2 with
      | true =>
        have E1 := Lib.hid (show c.nmK = 2 by unfold Cr.nmK; rw [← HNM.out, if_neg (by have := HT1.out; rw [hb1] at this; simpa using this.symm), if_pos (by have := HT2.out; rw [hb2] at this; simpa using this.symm)])
        have b13 : w2.cell? ⟨K, 13, none⟩ = some (.int .i64 c0.kind) := HR2.out.cell 13 rfl
        have z13 := HR2.out.frz 13
        have HQ := Lib.hid (HR2.out.put hT (c' := { c with kind := 2 }) 13 (.int .i64 2) (by rw [HC0.out]; rfl) (by omega) (by rw [HC0.out]) (fun hb => by rw [HC0.out]; exact ⟨hb, rfl, rfl⟩) (by rw [HC0.out]))
        clear hb1 hb2
        go_wp2_with fail
        go_meet
        have e2 : cA = { c with kind := 2 } := by rw [HCA.out]; unfold Cr.nmA; rw [E1.out, if_neg (by simp)]
        rw [e2]
        exact ⟨_, HQ.out.1, HF2.out.trans HQ.out.2⟩
      | false =>
        have E1 := Lib.hid (show c.nmK = 0 by unfold Cr.nmK; rw [← HNM.out, if_neg (by have := HT1.out; rw [hb1] at this; simpa using this.symm), if_neg (by have := HT2.out; rw [hb2] at this; simpa using this.symm)])
        obtain ⟨H, hk, hvh, hhc, hhm, hHA⟩ := ownsRow_shape (HR2.out.head (by rw [HC0.out]; exact HBG.out))
        have q9 := HR2.out.cell 9 (u := v.vh) rfl
        obtain ⟨hn, hhn⟩ : ∃ z, z = c0.m.head.length := ⟨_, rfl⟩
        have HH0 := HR2.out.head (by rw [HC0.out]; exact HBG.out)
        rw [← hhn] at hvh HH0
        rw [hvh] at q9 HH0
        have HHN := Lib.hid (show hn = c.m.head.length by rw [hhn, HC0.out])
        have HVH := Lib.hid hvh
        have HHO := Lib.hid HH0
        have hhb : hn ≤ 1000 := by rw [HHN.out]; exact HHL.out
        clear HH0 hhn hvh
        by_cases h100 : hn = 100
        {
          have t100 : ((hn : Int) == 100) = true := by simp; omega
          have q12 : w2.cell? ⟨K, 12, none⟩ = some (.int .i64 c.line) := by have := HR2.out.cell 12 (u := .int .i64 c0.line) rfl; rw [HC0.out] at this; exact this
          have HF := Lib.hid (cFail_any hT c0 v c.line 3 w2 HR2.out)
          have E2 := Lib.hid (show cA = c0.fail c.line 3 by rw [HCA.out]; unfold Cr.nmA; rw [E1.out, if_pos rfl, if_pos (by rw [← HHN.out]; exact h100), HC0.out])
          clear h100 hb1 hb2
          go_wp2_with fail
          (with_reducible refine (HF.out).mono ?_)
          rintro e w' ⟨rfl, h1, h2⟩
          go_wp2_with fail
          go_meet
          rw [E2.out]
          obtain ⟨v3, h1⟩ := h1
          exact ⟨v3, h1, HF2.out.trans h2⟩
        }
        {
          have t100 : ((hn : Int) == 100) = false := by simp; omega
          have hbw := HR2.out.bw
          have hbp := buildPr ⟨nm.toArray⟩
          have E2 := Lib.hid (show cA = { c0 with m := { c0.m with head := c0.m.head ++ [(nm, [])] } } by rw [HCA.out]; unfold Cr.nmA; rw [E1.out, if_pos rfl, if_neg (by rw [← HHN.out]; exact h100), HC0.out, HNM.out])
          clear h100 hb1 hb2
          go_wp2_with (at_builtin; go_loud (refine wpList_append_lies _ rfl _ _ 22 rfl base 69 ip _ 2 32 Tryz.underlying22 hip hpz0 hpz1 hpz2 rfl (by decide) (.slice H hn hk) hn (prC c0.m.head) rfl (HHO.out.alloc _) ⟨w2.heap.size, 0, none⟩ 1 1 [tx nm, tx []] rfl rfl (World.news_of_block (cs := #[tx nm, tx []]) (t := 69) (fr := (0, 0)) (heap_alloc_new w2 _)) (by simp [Value.oneCell']) (by decide) ?c3 ?c4 ?c5 (w2.heap.size + 1) (by simp) ?_))
          case c3 => unfold maxLen; omega
          case c4 => omega
          case c5 => simp; omega
          intro g3 cap3 w3 ho3 hg3 hat3 hlt3
          obtain ⟨hb3, hf3⟩ := HR2.out.boxH hT (by rw [HC0.out]; exact HBG.out) (by rw [HVH.out]; exact hg3)
          have r9 : w3.cell? ⟨K, 9, none⟩ = some (.slice H hn hk) := (box_cell hb3 9 (u := v.vh) rfl).trans (by rw [HVH.out])
          have y9 : w3.frozen? ⟨K, 9, none⟩ = false := frozenAt hb3 9
          have HQ := Lib.hid (HR2.out.putH hT (by rw [HC0.out]; exact HBG.out) (u := .slice (some ⟨g3, 0, none⟩) (hn + 1) cap3) hf3 (c0.m.head ++ [(nm, [])]) (by rw [List.length_append, prC_append, show c0.m.head.length = hn by rw [HHN.out, HC0.out]]; exact ho3) (by rw [HVH.out]; exact hat3.elim (fun e => .inl e.symm) (fun e => .inr (fun q hq => by have hq : q = g3 := Option.some.inj hq; omega))))
          clear ho3 hg3 hat3 hb3 hf3 hlt3
          go_wp2_with fail
          go_meet
          rw [E2.out]
          exact ⟨_, HQ.out.1, HF2.out.trans HQ.out.2⟩
        }
  case rest =>
    obtain ⟨vA, hrA, hfA⟩ := hcut
    obtain ⟨eA1, eA2, eA3, eA4, eA5, eA6⟩ := c.nmA_eqs
    rw [← HCA.out] at eA1 eA2 eA3 eA4 eA5 eA6
    rw [← HKD.out] at eA1
    have q13 : wc.cell? ⟨K, 13, none⟩ = some (.int .i64 kd) := by rw [← eA1]; exact hrA.cell 13 rfl
    have q12 : wc.cell? ⟨K, 12, none⟩ = some (.int .i64 c.line) := by rw [← eA3]; exact hrA.cell 12 rfl
    have HEA := Lib.hid (show cA.kind = kd ∧ cA.line = c.line ∧ cA.req = c.req ∧ cA.m.status = c.m.status from ⟨eA1, eA3, eA4, eA5⟩)
    have HRA := Lib.hid hrA
    have HFA := Lib.hid hfA
    have hk2 : kd = 0 ∨ kd = 1 ∨ kd = 2 := by
      rw [HKD.out]; unfold Cr.nmK
      split
      · exact .inr (.inl rfl)
      · split
        · exact .inr (.inr rfl)
        · exact .inl rfl
    clear hrA hfA eA1 eA2 eA3 eA4 eA5 eA6
    by_cases hk0 : kd = 0
    {
      have e0 : cE = cA := by rw [HCE.out]; unfold Cr.nmE; rw [if_pos hk0]
      have t0 : (kd == 0) = true := by simp [hk0]
      have t0b : (kd != 0) = false := by simp [hk0]
      rw [← e0] at HRA
      clear hk0 hk2 e0
      have r18 : wc.cell? ⟨K, 18, none⟩ = some (.bool cE.closed) := HRA.out.cell 18 rfl
      have y18 : wc.frozen? ⟨K, 18, none⟩ = false := HRA.out.frz 18
      have HZ := Lib.hid (HRA.out.put hT (c' := { cE with closed := false }) 18 (.bool false) rfl (by omega) rfl (fun hb => ⟨hb, rfl, rfl⟩) rfl)
      have HG := Lib.hid (cGoOn_any hT { cE with closed := false } _ 9 _ HZ.out.1)
      go_wp2_with fail
      (with_reducible refine (HG.out).mono ?_)
      rintro e w' ⟨rfl, h1, h2⟩
      go_wp2
      go_end0
      rw [E.out]
      exact ⟨rfl, h1, (HFA.out).trans (HZ.out.2.trans h2)⟩
    }
    {
      have t0 : (kd == 0) = false := by simp [hk0]
      have t0b : (kd != 0) = true := by simp [hk0]
      obtain ⟨cB, hcB⟩ : ∃ x, x = cA.nmB := ⟨_, rfl⟩
      obtain ⟨cC, hcC⟩ : ∃ x, x = cB.nmC kd := ⟨_, rfl⟩
      have HEE := Lib.hid (show cE = cC.nmD by rw [HCE.out]; unfold Cr.nmE; rw [if_neg hk0, ← hcB, ← hcC])
      have HEB := Lib.hid (show cB.kind = cA.kind ∧ cB.line = cA.line ∧ cB.req = cA.req ∧ cB.m = cA.m by rw [hcB]; exact cA.nmB_eqs)
      have HCB := Lib.hid hcB
      have HCC := Lib.hid hcC
      have HK2 := Lib.hid (show kd = 1 ∨ kd = 2 from hk2.resolve_left hk0)
      have q16 : wc.cell? ⟨K, 16, none⟩ = some (.bool cA.lengths) := HRA.out.cell 16 rfl
      have q17 : wc.cell? ⟨K, 17, none⟩ = some (.bool cA.coding) := HRA.out.cell 17 rfl
      clear hk0 hk2 hcB hcC
      go_upto_region 10 with fail
      go_cut [64] (fun t wx => t = .bool (cA.lengths || cA.coding) ∧ wc = wx)
      case first =>
        cases hln : cA.lengths
        all_goals
          rw [hln] at q16
          go_wp2_with fail
          go_meet
          exact ⟨by rw [hln]; rfl, rfl⟩
      case rest =>
        obtain ⟨rfl, rfl⟩ := hcut
        obtain ⟨tl, htl⟩ : ∃ t, t = (cA.lengths || cA.coding) := ⟨_, rfl⟩
        rw [← htl]
        have HTL := Lib.hid htl
        clear htl q16 q17
        go_upto_if 64 with fail
        go_cut [] (fun wx => ∃ v', CrR T ex wx K base cB v' ∧ CrF K w wx)
        case first =>
          cases hb : tl with
          | true =>
            have e0 : cB = cA.fail c.line 5 := by rw [HCB.out]; unfold Cr.nmB; rw [← HTL.out, hb, if_pos rfl, HEA.out.2.1]
            have HF := Lib.hid (cFail_any hT cA vA c.line 5 wc HRA.out)
            rw [← e0] at HF
            clear e0
            go_wp2_with fail
            (with_reducible refine (HF.out).mono ?_)
            rintro e w' ⟨rfl, h1, h2⟩
            go_wp2_with fail
            go_meet
            obtain ⟨v1, h1⟩ := h1
            exact ⟨v1, h1, HFA.out.trans h2⟩
          | false =>
            have e0 : cB = cA := by rw [HCB.out]; unfold Cr.nmB; rw [← HTL.out, hb, if_neg (by simp)]
            go_wp2_with fail
            go_meet
            rw [e0]
            exact ⟨vA, HRA.out, HFA.out⟩
        case rest =>
          obtain ⟨vB, hrB, hfB⟩ := hcut
          obtain ⟨eB1, eB2, eB3, eB4⟩ := HEB.out
          have p13 : wc.cell? ⟨K, 13, none⟩ = some (.int .i64 kd) := by rw [← HEA.out.1, ← eB1]; exact hrB.cell 13 rfl
          have p16 : wc.cell? ⟨K, 16, none⟩ = some (.bool cB.lengths) := hrB.cell 16 rfl
          have p17 : wc.cell? ⟨K, 17, none⟩ = some (.bool cB.coding) := hrB.cell 17 rfl
          have y16 := hrB.frz 16
          have y17 := hrB.frz 17
          have HR1 := Lib.hid (hrB.put hT (c' := { cB with lengths := kd == 1 }) 16 (.bool (kd == 1)) rfl (by omega) rfl (fun hb => ⟨hb, rfl, rfl⟩) rfl)
          have HR2 := Lib.hid (HR1.out.1.put hT (c' := cC) 17 (.bool (kd == 2)) (by rw [HCC.out]; rfl) (by omega) (by rw [HCC.out]; rfl) (fun hb => by rw [HCC.out] at hb ⊢; exact ⟨hb, rfl, rfl⟩) (by rw [HCC.out]; rfl))
          have HFB := Lib.hid ((hfB.trans (HR1.out.2.trans HR2.out.2)).drew)
          have HR2 := Lib.hid HR2.out.1.drew
          clear hrB hfB eB1 eB2 eB3 eB4 q12 q13
          go_upto_region 12 with fail
          refine wp_region_noPanic ?_
          refine wp_region_held_drew (S := (fun X => X.cell? ⟨K, 13, none⟩ = some (.int .i64 kd))) (by kernel_rfl) p13 (fun HS0 => ?_)
          refine wpAnyH_take (i := 0) (v := ?_) rfl (by kernel_rfl) (by kernel_rfl) (by kernel_rfl) (fun _ _ _ h => h) (Or.inl ⟨by kernel_rfl, ?_⟩) HS0 ?_
          rotate_left
          · intro W hW; go_simp; try (with_reducible rfl)
          refine wpAnyH_take (i := 1) (v := ?_) rfl (by kernel_rfl) (by kernel_rfl) (by kernel_rfl) (fun _ _ _ h => h) (Or.inl ⟨by kernel_rfl, ?_⟩) HS0 ?_
          rotate_left
          · intro W hW; go_simp; try (with_reducible rfl)
          refine wpAnyH_take (i := 2) (v := ?_) rfl (by kernel_rfl) (by kernel_rfl) (by kernel_rfl) (fun _ _ _ h => h) (Or.inl ⟨by kernel_rfl, ?_⟩) HS0 ?_
          rotate_left
          · intro W hW; go_simp; try (with_reducible rfl)
          refine wpAnyH_take (i := 3) (v := ?_) rfl (by kernel_rfl) (by kernel_rfl) (by kernel_rfl) (fun _ _ _ h => h) (Or.inl ⟨by kernel_rfl, ?_⟩) HS0 ?_
          rotate_left
          · intro W hW; go_simp; try (with_reducible rfl)
          refine wpAnyH_take (i := 4) (v := ?_) rfl (by kernel_rfl) (by kernel_rfl) (by kernel_rfl) (fun _ _ _ h => h) (Or.inl ⟨by kernel_rfl, ?_⟩) HS0 ?_
          rotate_left
          · intro W hW; go_simp; try (with_reducible rfl)
          refine wpAnyH_take (i := 5) (v := ?_) rfl (by kernel_rfl) (by kernel_rfl) (by kernel_rfl) (fun _ _ _ h => h) (Or.inl ⟨by kernel_rfl, ?_⟩) HS0 ?_
          rotate_left
          · intro W hW; go_simp; try (with_reducible rfl)
          refine wpAnyH_take (i := 6) (v := ?_) rfl (by kernel_rfl) (by kernel_rfl) (by kernel_rfl) (fun _ _ _ h => h) (Or.inl ⟨by kernel_rfl, ?_⟩) HS0 ?_
          rotate_left
          · intro W hW; go_simp; try (with_reducible rfl)
          refine wpAnyH_take (i := 7) (v := ?_) rfl (by kernel_rfl) (by kernel_rfl) (by kernel_rfl) (fun _ _ _ h => h) (Or.inl ⟨by kernel_rfl, ?_⟩) HS0 ?_
          rotate_left
          · intro W hW; go_simp; try (with_reducible rfl)
          refine wpAnyH_take (i := 8) (v := ?_) rfl (by kernel_rfl) (by kernel_rfl) (by kernel_rfl) (fun _ _ _ h => h) (Or.inl ⟨by kernel_rfl, ?_⟩) HS0 ?_
          rotate_left
          · intro W hW; go_simp; try (with_reducible rfl)
          refine wpAnyH_take (i := 9) (v := ?_) rfl (by kernel_rfl) (by kernel_rfl) (by kernel_rfl) (fun _ _ _ h => h) (Or.inl ⟨by kernel_rfl, ?_⟩) HS0 ?_
          rotate_left
          · intro W hW; go_simp; try (with_reducible rfl)
          refine wpAnyH_take (i := 10) (v := ?_) rfl (by kernel_rfl) (by kernel_rfl) (by kernel_rfl) (fun _ _ _ h => h) (Or.inl ⟨by kernel_rfl, ?_⟩) HS0 ?_
          rotate_left
          · intro W hW; go_simp; try (with_reducible rfl)
          refine wpAnyH_take (i := 11) (v := ?_) rfl (by kernel_rfl) (by kernel_rfl) (by kernel_rfl) (fun _ _ _ h => h) (Or.inl ⟨by kernel_rfl, ?_⟩) HS0 ?_
          rotate_left
          · intro W hW; go_simp; try (with_reducible rfl)
          refine wpAnyH_take (i := 12) (v := ?_) rfl (by kernel_rfl) (by kernel_rfl) (by kernel_rfl) (fun _ _ _ h => h) (Or.inl ⟨by kernel_rfl, ?_⟩) HS0 ?_
          rotate_left
          · intro W hW; go_simp; try (with_reducible rfl)
          refine wpAnyH_take (i := 13) (v := ?_) rfl (by kernel_rfl) (by kernel_rfl) (by kernel_rfl) (fun _ _ _ h => h) (Or.inl ⟨by kernel_rfl, ?_⟩) HS0 ?_
          rotate_left
          · intro W hW; go_simp; try (with_reducible rfl)
          clear HS0
          refine run_oneC (i := 14) (by kernel_rfl) rfl (by kernel_rfl) ?_
          intro KK hK
          go_simp
          refine hK.out _ _ (by go_simp) ?_
          clear hK KK
          intro HS0
          refine wpAnyH_take (i := 15) (v := ?_) rfl (by kernel_rfl) (by kernel_rfl) (by kernel_rfl) (fun _ _ _ h => h) (Or.inl ⟨by kernel_rfl, ?_⟩) HS0 ?_
          rotate_left
          · intro W hW; go_simp; try (with_reducible rfl)
          refine wpAnyH_take (i := 16) (v := ?_) rfl (by kernel_rfl) (by kernel_rfl) (by kernel_rfl) (fun _ _ _ h => h) (Or.inl ⟨by kernel_rfl, ?_⟩) HS0 ?_
          rotate_left
          · intro W hW; go_simp; try (with_reducible rfl)
          clear HS0
          refine run_oneC (i := 17) (by kernel_rfl) rfl (by kernel_rfl) ?_
          intro KK hK
          go_simp
          refine hK.out _ _ (by go_simp) ?_
          clear hK KK
          intro HS0
          refine wpAnyH_done (by kernel_rfl) ?_ _
          refine NoPanic.normal ?_
          (try go_simp)
          clear HS0 p13 p16 p17 y16 y17
          obtain ⟨W4, hW4⟩ : ∃ W, W = ((wc.setCell ⟨K, 16, none⟩ (.bool (kd == 1))).setCell ⟨K, 17, none⟩ (.bool (kd == 2))).drew := ⟨_, rfl⟩
          rw [← hW4] at HR2 HFB ⊢
          clear hW4 HR1
          have r17 : W4.cell? ⟨K, 17, none⟩ = some (.bool cC.coding) := HR2.out.cell 17 rfl
          have eC : cC.coding = (kd == 2) ∧ cC.req = c.req ∧ cC.m.status = c.m.status ∧ cC.line = c.line := by rw [HCC.out]; exact ⟨rfl, HEB.out.2.2.1.trans HEA.out.2.2.1, by show cB.m.status = _; rw [HEB.out.2.2.2, HEA.out.2.2.2], HEB.out.2.1.trans HEA.out.2.1⟩
          have HEC := Lib.hid eC
          have r0 : W4.cell? ⟨K, 0, none⟩ = some (.bool cC.req) := HR2.out.cell 0 rfl
          have r7 : W4.cell? ⟨K, 7, none⟩ = some (.int .i64 cC.m.status) := HR2.out.cell 7 rfl
          have r12 : W4.cell? ⟨K, 12, none⟩ = some (.int .i64 cC.line) := HR2.out.cell 12 rfl
          have HRC := Lib.hid HR2.out
          clear HR2 eC
          cases hcd : cC.coding with
          | true =>
            rw [hcd] at r17
            cases hrq : cC.req with
            | true =>
              rw [hrq] at r0
              have e0 : cE = cC := by rw [HEE.out]; unfold Cr.nmD; rw [if_neg (by simp [hrq])]
              rw [← e0] at HRC
              clear e0
              have r18 : W4.cell? ⟨K, 18, none⟩ = some (.bool cE.closed) := HRC.out.cell 18 rfl
              have y18 : W4.frozen? ⟨K, 18, none⟩ = false := HRC.out.frz 18
              have HZ := Lib.hid (HRC.out.put hT (c' := { cE with closed := false }) 18 (.bool false) rfl (by omega) rfl (fun hb => ⟨hb, rfl, rfl⟩) rfl)
              have HG := Lib.hid (cGoOn_any hT { cE with closed := false } _ 9 _ HZ.out.1)
              go_wp2_with fail
              (with_reducible refine (HG.out).mono ?_)
              rintro e w' ⟨rfl, h1, h2⟩
              go_wp2
              go_end0
              rw [E.out]
              exact ⟨rfl, h1, (HFB.out).trans (HZ.out.2.trans h2)⟩
            | false =>
              rw [hrq] at r0
              have HBA := Lib.hid (bare_any cC.m.status W4)
              cases hba : Cr.bare cC.m.status with
              | true =>
                rw [hba] at HBA
                have e0 : cE = cC.fail cC.line 2 := by rw [HEE.out]; unfold Cr.nmD; rw [if_pos (by simp [hcd, hrq, hba])]
                have HF := Lib.hid (cFail_any hT cC _ cC.line 2 W4 HRC.out)
                rw [← e0] at HF
                clear e0
                go_wp2_with fail
                (with_reducible refine (HBA.out).mono ?_)
                rintro e w5 ⟨rfl, rfl⟩
                go_wp2_with fail
                (with_reducible refine (HF.out).mono ?_)
                rintro e w6 ⟨rfl, ⟨v6, h6⟩, hf6⟩
                have HR6 := Lib.hid h6
                have HF6 := Lib.hid (HFB.out.trans hf6)
                clear h6 hf6
                have r18 : w6.cell? ⟨K, 18, none⟩ = some (.bool cE.closed) := HR6.out.cell 18 rfl
                have y18 : w6.frozen? ⟨K, 18, none⟩ = false := HR6.out.frz 18
                have HZ := Lib.hid (HR6.out.put hT (c' := { cE with closed := false }) 18 (.bool false) rfl (by omega) rfl (fun hb => ⟨hb, rfl, rfl⟩) rfl)
                have HG := Lib.hid (cGoOn_any hT { cE with closed := false } _ 9 _ HZ.out.1)
                go_wp2_with fail
                (with_reducible refine (HG.out).mono ?_)
                rintro e w' ⟨rfl, h1, h2⟩
                go_wp2
                go_end0
                rw [E.out]
                exact ⟨rfl, h1, (HF6.out).trans (HZ.out.2.trans h2)⟩
              | false =>
                rw [hba] at HBA
                have e0 : cE = cC := by rw [HEE.out]; unfold Cr.nmD; rw [if_neg (by simp [hba])]
                rw [← e0] at HRC
                have HBA2 := HBA
                have r18 : W4.cell? ⟨K, 18, none⟩ = some (.bool cE.closed) := HRC.out.cell 18 rfl
                have y18 : W4.frozen? ⟨K, 18, none⟩ = false := HRC.out.frz 18
                have HZ := Lib.hid (HRC.out.put hT (c' := { cE with closed := false }) 18 (.bool false) rfl (by omega) rfl (fun hb => ⟨hb, rfl, rfl⟩) rfl)
                have HG := Lib.hid (cGoOn_any hT { cE with closed := false } _ 9 _ HZ.out.1)
                go_wp2_with fail
                (with_reducible refine (HBA.out).mono ?_)
                rintro e w5 ⟨rfl, rfl⟩
                go_wp2_with fail
                (with_reducible refine (HG.out).mono ?_)
                rintro e w' ⟨rfl, h1, h2⟩
                go_wp2
                go_end0
                rw [E.out]
                exact ⟨rfl, h1, (HFB.out).trans (HZ.out.2.trans h2)⟩
          | false =>
            rw [hcd] at r17
            have e0 : cE = cC := by rw [HEE.out]; unfold Cr.nmD; rw [if_neg (by simp [hcd])]
            rw [← e0] at HRC
            clear e0
            have r18 : W4.cell? ⟨K, 18, none⟩ = some (.bool cE.closed) := HRC.out.cell 18 rfl
            have y18 : W4.frozen? ⟨K, 18, none⟩ = false := HRC.out.frz 18
            have HZ := Lib.hid (HRC.out.put hT (c' := { cE with closed := false }) 18 (.bool false) rfl (by omega) rfl (fun hb => ⟨hb, rfl, rfl⟩) rfl)
            have HG := Lib.hid (cGoOn_any hT { cE with closed := false } _ 9 _ HZ.out.1)
            go_wp2_with fail
            (with_reducible refine (HG.out).mono ?_)
            rintro e w' ⟨rfl, h1, h2⟩
            go_wp2
            go_end0
            rw [E.out]
            exact ⟨rfl, h1, (HFB.out).trans (HZ.out.2.trans h2)⟩
    }
end
end Go.Proofs.YthfloagpmmohkaaGreatDoor
