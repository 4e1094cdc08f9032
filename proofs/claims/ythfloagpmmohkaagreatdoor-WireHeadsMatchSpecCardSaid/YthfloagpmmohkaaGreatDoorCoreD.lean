/- wire's reader of messages: the digits of Content-Length. Printed by wip/gen_core.py. -/
import Derived.Test.YthfloagpmmohkaaGreatDoorCoreC
import Derived.Deep.CutBlock
import Derived.Deep.DeepCutAuto
namespace Go.Proofs.YthfloagpmmohkaaGreatDoor
open Go Go.RowKit Go.Proofs

theorem Cr.fail_eqs (c : Cr) (a no : Int) : (c.fail a no).word = c.word ∧ (c.fail a no).length = c.length ∧ (c.fail a no).pos = c.pos ∧ (c.fail a no).line = c.line ∧ (c.fail a no).first = c.first ∧ (c.fail a no).begun = c.begun ∧ (c.fail a no).body = c.body ∧ (c.fail a no).m = c.m ∧ (c.fail a no).req = c.req := by
  unfold Cr.fail
  split <;> simp
theorem Cr.digB_eqs (c : Cr) (b : UInt8) : (c.digB b).word = c.word ∧ (c.digB b).length = c.length ∧ (c.digB b).pos = c.pos ∧ (c.digB b).line = c.line ∧ (c.digB b).first = c.first ∧ (c.digB b).begun = c.begun ∧ (c.digB b).body = c.body ∧ (c.digB b).m = c.m ∧ (c.digB b).req = c.req := by
  unfold Cr.digB
  split
  · exact Cr.fail_eqs c c.line 2
  · simp
theorem Cr.digC_eqs (c : Cr) : c.digC.word = c.word ∧ c.digC.length = c.length ∧ c.digC.pos = c.pos ∧ c.digC.line = c.line ∧ c.digC.first = c.first ∧ c.digC.begun = c.begun ∧ c.digC.body = c.body ∧ c.digC.m = c.m ∧ c.digC.req = c.req := by
  unfold Cr.digC
  split
  · exact Cr.fail_eqs c c.pos 3
  · simp
theorem Cr.digA_eqs (c : Cr) : c.digA.word = c.word ∧ c.digA.pos = c.pos ∧ c.digA.line = c.line ∧ c.digA.begun = c.begun ∧ c.digA.body = c.body ∧ c.digA.m = c.m ∧ c.digA.req = c.req := by
  unfold Cr.digA
  split <;> simp
section
variable {T : TypeId} {ex : List Value} {K base : Nat}
set_option maxHeartbeats 4000000 in
set_option maxRecDepth 100000 in
theorem cDigit_any (hT : TyOk T) (c : Cr) (v : CrV) (b : UInt8) (w : World) (h : CrR T ex w K base c v) (hl : c.word.length ≤ 1000000000) (hlen : 0 ≤ c.length ∧ c.length ≤ 1000000000) (hp : -4000000000 ≤ c.pos ∧ c.pos ≤ 4000000000) (hli : -4000000000 ≤ c.line ∧ c.line ≤ 4000000000) :
    Calls Tryz.prog 190 #[.pointer (some ⟨K, 0, none⟩), .int .u8 (b.toNat : Int)] w (CrP T ex K base (c.digit b) w) := by
  obtain ⟨i0, hi, hz0, hz1, hz2⟩ := info_parts infoCU
  obtain ⟨A, k, hvw, hnc, hcm, hA⟩ := ownsRow_shape h.word
  have k11 := h.cell 11 (u := v.vw) rfl
  rw [hvw] at k11
  have HH := Lib.hid h
  have HO := h.word
  rw [hvw] at HO
  have hcvw := conv_own HO
  obtain ⟨n, hn⟩ : ∃ n, n = c.word.length := ⟨_, rfl⟩
  rw [← hn] at hvw hnc HO hcvw k11
  have HN := Lib.hid hn
  have HV := Lib.hid hvw
  have HO := Lib.hid HO
  have HWR := Lib.hid (cWrong_any hT c v w h)
  have hbw := h.bw
  have hKlt := h.lt
  unfold maxLen at hcm
  rw [← hn] at hl
  have HT := Lib.hid (isDigit_any b w)
  have HTR := Lib.hid (fun g => cTrail_any hT c v b g w h hp hli)
  have k18 := h.cell 18 (u := .bool c.closed) rfl
  have k1 := h.cell 1 (u := .int .i64 c.pos) rfl
  have z14 := h.frz 14
  have z15 := h.frz 15
  have b14 : w.cell? ⟨K, 14, none⟩ = some (.int .i64 c.length) := h.cell 14 rfl
  have b15 : w.cell? ⟨K, 15, none⟩ = some (.int .i64 c.first) := h.cell 15 rfl
  have POSF : ¬ 0 < n → Hid (decide (0 < n) = false ∧ decide ((0 : Int) < (n : Int)) = false) := fun h => Lib.hid ⟨decide_eq_false h, decide_eq_false (by omega)⟩
  clear h hvw hn
  cases hd : Cr.isDig b with
  | true =>
    rw [hd] at HT
    cases hcl : c.closed with
    | true =>
      rw [hcl] at k18
      by_cases h0 : 0 < n
      {
        have E := Lib.hid (show c.digit b = c.trail b true by unfold Cr.digit; rw [if_pos (.inr hcl), ← HN.out, decide_eq_true h0])
        have HG := Lib.hid (HTR.out true)
        clear hd hcl
        go_enter Tryz.func190, Tryz.ntmps190
        go_wp2_with fail
        (with_reducible refine (HT.out).mono ?_)
        rintro e w2 ⟨rfl, rfl⟩
        go_wp2_with fail
        (with_reducible refine (HG.out).mono ?_)
        rintro e w' ⟨rfl, h1, h2⟩
        go_wp2
        go_end0
        rw [E.out]
        exact ⟨rfl, h1, h2⟩
      }
      {
        have E := Lib.hid (show c.digit b = c.trail b false by unfold Cr.digit; rw [if_pos (.inr hcl), ← HN.out, decide_eq_false h0])
        have HG := Lib.hid (HTR.out false)
        clear hd hcl
        obtain ⟨g1, g2⟩ := (POSF h0).out
        clear h0 POSF
        go_enter Tryz.func190, Tryz.ntmps190
        go_wp2_with fail
        (with_reducible refine (HT.out).mono ?_)
        rintro e w2 ⟨rfl, rfl⟩
        go_wp2_with fail
        (with_reducible refine (HG.out).mono ?_)
        rintro e w' ⟨rfl, h1, h2⟩
        go_wp2
        go_end0
        rw [E.out]
        exact ⟨rfl, h1, h2⟩
      }
    | false =>
      rw [hcl] at k18
      have hx : ¬ ((!Cr.isDig b) = true ∨ c.closed = true) := by rw [hd, hcl]; simp
      by_cases h7 : n = 7
      {
        have E := Lib.hid (show c.digit b = c.wrong by unfold Cr.digit; rw [if_neg hx, if_pos (.inl (by rw [← HN.out]; exact h7))])
        have t7 : ((n : Int) == 7) = true := by simp; omega
        clear h7 hx hd hcl
        go_enter Tryz.func190, Tryz.ntmps190
        go_wp2_with fail
        (with_reducible refine (HT.out).mono ?_)
        rintro e w2 ⟨rfl, rfl⟩
        go_wp2_with fail
        (with_reducible refine (HWR.out).mono ?_)
        rintro e w' ⟨rfl, h1, h2⟩
        go_wp2
        go_end0
        rw [E.out]
        exact ⟨rfl, h1, h2⟩
      }
      {
        have HZ : Hid (0 < n → ∃ (g : Nat) (x0 : UInt8), A = some ⟨g, 0, none⟩ ∧ w.cell? ⟨g, 0, none⟩ = some (.int .u8 (x0.toNat : Int)) ∧ c.word[0]? = some x0) := Lib.hid (fun h0 => by
          obtain ⟨x0, hx0⟩ : ∃ x, c.word[0]? = some x := ⟨_, List.getElem?_eq_getElem (by rw [← HN.out]; exact h0)⟩
          obtain ⟨g, hg⟩ : ∃ g, A = some ⟨g, 0, none⟩ := by
            rcases HO.out.2 with ⟨_, h9⟩ | ⟨g, cap, cur, hv, _⟩
            · omega
            · simp only [Value.slice.injEq] at hv
              exact ⟨g, hv.1⟩
          have hc := HO.out
          rw [hg] at hc
          exact ⟨g, x0, hg, hc.cells (g := g) rfl 0 (.int .u8 (x0.toNat : Int)) (by simp [Lib.byteCells, hx0]), hx0⟩)
        by_cases hz : 0 < n ∧ c.word[0]? = some 48
        {
          obtain ⟨h0, hz⟩ := hz
          obtain ⟨g, x0, hA0, hx0, hx1⟩ := HZ.out h0
          rw [hz] at hx1
          obtain rfl : (48 : UInt8) = x0 := Option.some.inj hx1
          rw [hA0] at k11
          have E := Lib.hid (show c.digit b = c.wrong by unfold Cr.digit; rw [if_neg hx, if_pos (.inr ⟨by rw [← HN.out]; exact h0, hz⟩)])
          have t7 : ((n : Int) == 7) = false := by simp; omega
          clear hx hd hcl h7 hz hx1 HZ POSF
          go_enter Tryz.func190, Tryz.ntmps190
          go_wp2_with fail
          (with_reducible refine (HT.out).mono ?_)
          rintro e w2 ⟨rfl, rfl⟩
          go_wp2_with fail
          (with_reducible refine (HWR.out).mono ?_)
          rintro e w' ⟨rfl, h1, h2⟩
          go_wp2
          go_end0
          rw [E.out]
          exact ⟨rfl, h1, h2⟩
        }
        {
          have hy : ¬ (c.word.length = 7 ∨ (0 < c.word.length ∧ c.word[0]? = some 48)) := fun q => q.elim (fun q => h7 (by rw [HN.out]; exact q)) (fun q => hz ⟨by rw [HN.out]; exact q.1, q.2⟩)
          have HZ : Hid (0 < n → ∃ (g : Nat) (x0 : UInt8), A = some ⟨g, 0, none⟩ ∧ w.cell? ⟨g, 0, none⟩ = some (.int .u8 (x0.toNat : Int)) ∧ ¬ x0 = 48) := Lib.hid (fun h0 => by
            obtain ⟨g, x0, q1, q2, q3⟩ := HZ.out h0
            exact ⟨g, x0, q1, q2, fun e => hz ⟨h0, by rw [q3, e]⟩⟩)
          clear hz
          obtain ⟨cA, hcA⟩ : ∃ x, x = c.digA := ⟨_, rfl⟩
          obtain ⟨cB, hcB⟩ : ∃ x, x = cA.digB b := ⟨_, rfl⟩
          obtain ⟨cC, hcC⟩ : ∃ x, x = cB.digC := ⟨_, rfl⟩
          obtain ⟨cD, hcD⟩ : ∃ x, x = cC.digD b 10 ((b.toNat : Int) - 48) := ⟨_, rfl⟩
          have E := Lib.hid (show c.digit b = cD.digE 0 by unfold Cr.digit; rw [if_neg hx, if_neg hy, ← hcA, ← hcB, ← hcC, ← hcD])
          obtain ⟨eA1, eA2, eA3, eA4, eA5, eA6, eA7⟩ := c.digA_eqs
          obtain ⟨eB1, eB2, eB3, eB4, eB5, eB6, eB7, eB8, eB9⟩ := cA.digB_eqs b
          obtain ⟨eC1, eC2, eC3, eC4, eC5, eC6, eC7, eC8, eC9⟩ := cB.digC_eqs
          rw [← hcA] at eA1 eA2 eA3 eA4 eA5 eA6 eA7
          rw [← hcB] at eB1 eB2 eB3 eB4 eB5 eB6 eB7 eB8 eB9
          rw [← hcC] at eC1 eC2 eC3 eC4 eC5 eC6 eC7 eC8 eC9
          have hlA : 0 ≤ cA.length ∧ cA.length ≤ 1000000000 := by
            rw [hcA]
            unfold Cr.digA
            split
            · exact ⟨by simp, by simp⟩
            · exact hlen
          have hwC : cC.word = c.word := by rw [eC1, eB1, eA1]
          have hlC : 0 ≤ cC.length ∧ cC.length ≤ 1000000000 := by rw [eC2, eB2]; exact hlA
          have HEA := Lib.hid (show cA.word = c.word ∧ cA.pos = c.pos ∧ cA.line = c.line ∧ cA.m = c.m ∧ cA.req = c.req from ⟨eA1, eA2, eA3, eA6, eA7⟩)
          have HEB := Lib.hid (show cB.pos = c.pos ∧ cB.line = c.line from ⟨eB3.trans eA2, eB4.trans eA3⟩)
          have HWC := Lib.hid hwC
          have HCA := Lib.hid hcA
          have HCB := Lib.hid hcB
          have HCC := Lib.hid hcC
          have HCD := Lib.hid hcD
          have HLC := Lib.hid hlC
          have hdd : 48 ≤ b.toNat ∧ b.toNat ≤ 57 := by simpa [Cr.isDig] using hd
          obtain ⟨tB, htB⟩ : ∃ t, t = cA.digT b := ⟨_, rfl⟩
          have HTB := Lib.hid htB
          clear eA1 eA2 eA3 eA4 eA5 eA6 eA7 eB1 eB2 eB3 eB4 eB5 eB6 eB7 eB8 eB9 eC1 eC2 eC3 eC4 eC5 eC6 eC7 eC8 eC9 hlA hwC hlC hcA hcB hcC hcD htB hx hy hd hcl
          have t7 : ((n : Int) == 7) = false := by simp; omega
          clear h7
          go_enter Tryz.func190, Tryz.ntmps190
          go_wp2_with fail
          (with_reducible refine (HT.out).mono ?_)
          rintro e w2 ⟨rfl, rfl⟩
          go_upto_block 0 with fail
          go_cut [] (fun wc => ∃ v', CrR T ex wc K base cA v' ∧ CrF K w wc)
          case first =>
            by_cases h0 : 0 < n
            {
              obtain ⟨g, x0, hA0, hx0, hx48⟩ := HZ.out h0
              have k0 : w.cell? ⟨g, 0, none⟩ = some (.int .u8 (x0.toNat : Int)) := hx0
              rw [hA0] at k11
              have t0 : ((n : Int) == 0) = false := by simp; omega
              have t48 : ((x0.toNat : Int) == 48) = false := by have h9 : x0.toNat ≠ 48 := u8_ne hx48; simp; omega
              have e0 : cA = c := by rw [HCA.out]; unfold Cr.digA; rw [if_neg (by rw [← HN.out]; omega)]
              clear HZ POSF hx0 hx48
              go_wp2_with fail
              go_meet
              rw [e0]
              exact ⟨v, HH.out, CrF.refl _ _⟩
            }
            {
              obtain ⟨g1, g2⟩ := (POSF h0).out
              have t0 : ((n : Int) == 0) = true := by simp; omega
              have e0 : cA = { c with first := c.pos, length := 0 } := by rw [HCA.out]; unfold Cr.digA; rw [if_pos (by rw [← HN.out]; omega)]
              have E0 := Lib.hid e0
              clear h0 POSF HZ e0
              go_wp2_with fail
              go_meet
              have p1 := HH.out.put hT (c' := { c with first := c.pos }) 15 (.int .i64 c.pos) rfl (by omega) rfl (fun hb => ⟨hb, rfl, rfl⟩) rfl
              have p2 := p1.1.put hT (c' := { c with first := c.pos, length := 0 }) 14 (.int .i64 0) rfl (by omega) rfl (fun hb => ⟨hb, rfl, rfl⟩) rfl
              rw [E0.out]
              exact ⟨_, p2.1, p1.2.trans p2.2⟩
            }
          case rest =>
            obtain ⟨vA, hrA, hfA⟩ := hcut
            obtain ⟨eA1, eA2, eA3, eA4, eA5⟩ := HEA.out
            have q0 : wc.cell? ⟨K, 0, none⟩ = some (.bool c.req) := by rw [← eA5]; exact hrA.cell 0 rfl
            have q7 : wc.cell? ⟨K, 7, none⟩ = some (.int .i64 c.m.status) := by rw [← eA4]; exact hrA.cell 7 rfl
            have q12 : wc.cell? ⟨K, 12, none⟩ = some (.int .i64 c.line) := by rw [← eA3]; exact hrA.cell 12 rfl
            have HRA := Lib.hid hrA
            have HFA := Lib.hid hfA
            clear hrA hfA eA1 eA2 eA3 eA4 eA5 k11 k18 k1 z14 z15 b14 b15 hcvw POSF HZ
            go_upto_region 7 with fail
            go_cut [71] (fun t wx => t = .bool tB ∧ wc = wx)
            case first =>
              have e : tB = (!decide (b.toNat = 48) && (!c.req && Cr.bare c.m.status)) := by rw [HTB.out]; unfold Cr.digT; rw [HEA.out.2.2.2.1, HEA.out.2.2.2.2]
              have ETB := Lib.hid e
              clear e
              by_cases h48 : b.toNat = 48
              {
                have t48 : ((b.toNat : Int) == 48) = true := by simp; omega
                have t48b : ((b.toNat : Int) != 48) = false := by simp; omega
                have ET := Lib.hid (show tB = false by rw [ETB.out, decide_eq_true h48]; rfl)
                clear h48
                go_wp2_with fail
                go_meet
                exact ⟨by rw [ET.out], rfl⟩
              }
              {
                have t48 : ((b.toNat : Int) == 48) = false := by simp; omega
                have t48b : ((b.toNat : Int) != 48) = true := by simp; omega
                cases hrq : c.req with
                | true =>
                  rw [hrq] at q0
                  have ET := Lib.hid (show tB = false by rw [ETB.out, hrq, decide_eq_false h48]; rfl)
                  clear h48 hrq
                  go_wp2_with fail
                  go_meet
                  exact ⟨by rw [ET.out], rfl⟩
                | false =>
                  rw [hrq] at q0
                  have HBA := Lib.hid (bare_any c.m.status wc)
                  have ET := Lib.hid (show tB = Cr.bare c.m.status by rw [ETB.out, hrq, decide_eq_false h48]; rfl)
                  clear h48 hrq
                  go_wp2_with fail
                  (with_reducible refine (HBA.out).mono ?_)
                  rintro e w2 ⟨rfl, rfl⟩
                  go_wp2_with fail
                  go_meet
                  exact ⟨by rw [ET.out], rfl⟩
              }
            case rest =>
              obtain ⟨rfl, rfl⟩ := hcut
              go_upto_if 71 with fail
              go_cut [] (fun wx => ∃ v', CrR T ex wx K base cB v' ∧ CrF K w wx)
              case first =>
                cases hb : tB with
                | true =>
                  have e0 : cB = cA.fail cA.line 2 := by rw [HCB.out]; unfold Cr.digB; rw [← HTB.out, hb, if_pos rfl]
                  have HF := Lib.hid (cFail_any hT cA vA c.line 2 wc HRA.out)
                  rw [HEA.out.2.2.1] at e0
                  rw [← e0] at HF
                  clear e0
                  go_wp2_with fail
                  (with_reducible refine (HF.out).mono ?_)
                  rintro e w' ⟨rfl, h1, h2⟩
                  go_wp2_with fail
                  go_meet
                  obtain ⟨v1, h1⟩ := h1
                  exact ⟨v1, h1, HFA.out.trans h2⟩
                | false =>
                  have e0 : cB = cA := by rw [HCB.out]; unfold Cr.digB; rw [← HTB.out, hb, if_neg (by simp)]
                  go_wp2_with fail
                  go_meet
                  rw [e0]
                  exact ⟨vA, HRA.out, HFA.out⟩
              case rest =>
                obtain ⟨vB, hrB, hfB⟩ := hcut
                have HFU := Lib.hid (cFull_any cB vB _ hrB (by rw [HEB.out.1]; exact hp) (by rw [HEB.out.2]; exact hli))
                have HFB := Lib.hid hfB
                obtain ⟨tf, htf⟩ : ∃ t, t = cB.full := ⟨_, rfl⟩
                rw [← htf] at HFU
                have HTF := Lib.hid htf
                clear hrB hfB q0 q7 q12 htf
                go_upto_if 79 with (with_reducible refine (HFU.out).mono ?_; rintro e w3 ⟨rfl, hr3, hf3⟩)
                have HR3 := Lib.hid hr3
                have HF3 := Lib.hid (HFB.out.trans hf3)
                clear hr3 hf3 HFU HFB
                go_cut [] (fun wx => ∃ v', CrR T ex wx K base cC v' ∧ CrF K w wx)
                case first =>
                  cases hb : tf with
                  | true =>
                    have q1 : w3.cell? ⟨K, 1, none⟩ = some (.int .i64 c.pos) := by rw [← HEB.out.1]; exact HR3.out.cell 1 rfl
                    have e0 : cC = cB.fail c.pos 3 := by rw [HCC.out]; unfold Cr.digC; rw [← HTF.out, hb, if_pos rfl, HEB.out.1]
                    have HF := Lib.hid (cFail_any hT cB vB c.pos 3 w3 HR3.out)
                    rw [← e0] at HF
                    clear e0
                    go_wp2_with fail
                    (with_reducible refine (HF.out).mono ?_)
                    rintro e w' ⟨rfl, h1, h2⟩
                    go_wp2_with fail
                    go_meet
                    obtain ⟨v1, h1⟩ := h1
                    exact ⟨v1, h1, HF3.out.trans h2⟩
                  | false =>
                    have e0 : cC = cB := by rw [HCC.out]; unfold Cr.digC; rw [← HTF.out, hb, if_neg (by simp)]
                    go_wp2_with fail
                    go_meet
                    rw [e0]
                    exact ⟨vB, HR3.out, HF3.out⟩
                case rest =>
                  obtain ⟨vC, hrC, hfC⟩ := hcut
                  have hnC : n = cC.word.length := by rw [HWC.out, HN.out]
                  obtain ⟨A2, k2, hvC, hnc2, hcm2, hA2⟩ := ownsRow_shape hrC.word
                  rw [← hnC] at hvC
                  have q11 := hrC.cell 11 (u := vC.vw) rfl
                  rw [hvC] at q11
                  have HOw := hrC.word
                  rw [← hnC, hvC] at HOw
                  have HOw := Lib.hid HOw
                  have HHw := Lib.hid hrC
                  have HVw := Lib.hid hvC
                  have HNC := Lib.hid hnC
                  have HFC := Lib.hid hfC
                  have hKlt2 := hrC.lt
                  have hbw2 := hrC.bw
                  unfold maxLen at hcm2
                  obtain ⟨lC1, lC2⟩ := HLC.out
                  clear hrC hvC hnC hfC HO
                  obtain ⟨len, hlen2⟩ : ∃ z, z = cC.length := ⟨_, rfl⟩
                  obtain ⟨fst, hfst⟩ : ∃ z, z = cC.first := ⟨_, rfl⟩
                  rw [← hlen2] at lC1 lC2
                  have HLE := Lib.hid hlen2
                  have HFI := Lib.hid hfst
                  clear hlen2 hfst
                  go_wp2_with (at_builtin; go_loud (refine wpList_append_lies _ rfl _ _ 27 rfl base 5 i0 (.int .u8 0) 1 1 Tryz.underlying27 hi hz0 hz1 hz2 rfl (by decide) (.slice A2 n k2) n (Lib.byteCells cC.word) rfl (HOw.out.alloc _) ⟨wc.heap.size, 0, none⟩ 1 1 [.int .u8 (b.toNat : Int)] rfl rfl ?c0 (by simp [Value.oneCell']) (by decide) ?c3 ?c4 ?c5 (wc.heap.size + 1) (by simp) ?_))
                  case c0 => have := cell_one_new wc (.int .u8 (b.toNat : Int)) 5; simpa using this
                  case c3 => unfold maxLen; omega
                  case c4 => omega
                  case c5 => have := HHw.out.bw; simp; omega
                  intro gw capw waw how hgw hatw hltw
                  obtain ⟨hbw, hfw⟩ := HHw.out.boxW hT (by rw [HVw.out]; exact hgw)
                  have qww : waw.cell? ⟨K, 11, none⟩ = some (.slice A2 n k2) := (box_cell hbw 11 (u := vC.vw) rfl).trans (by rw [HVw.out])
                  have yww : waw.frozen? ⟨K, 11, none⟩ = false := frozenAt hbw 11
                  have q14_w : waw.cell? ⟨K, 14, none⟩ = some (.int .i64 cC.length) := box_cell hbw 14 rfl
                  have y14_w : waw.frozen? ⟨K, 14, none⟩ = false := frozenAt hbw 14
                  have q15_w : waw.cell? ⟨K, 15, none⟩ = some (.int .i64 cC.first) := box_cell hbw 15 rfl
                  have y15_w : waw.frozen? ⟨K, 15, none⟩ = false := frozenAt hbw 15
                  have HPw := Lib.hid (HHw.out.putW hT (u := .slice (some ⟨gw, 0, none⟩) (n + 1) capw) hfw (cC.word ++ [b]) (by rw [List.length_append, byteCells_snoc, ← HNC.out]; exact how) (by rw [HVw.out]; exact hatw.elim (fun e => .inl e.symm) (fun e => .inr (fun q hq => by have hq : q = gw := Option.some.inj hq; omega))))
                  clear how hgw hatw hbw hfw hltw HOw
                  rw [← HLE.out] at q14_w
                  rw [← HFI.out] at q15_w
                  have HQ := Lib.hid (HPw.out.1.put hT (c' := cD) 14 (.int .i64 (len * 10 + ((b.toNat : Int) - 48))) (by rw [HCD.out, HLE.out]; rfl) (by omega) (by rw [HCD.out]; rfl) (fun hb => by rw [HCD.out] at hb ⊢; exact ⟨hb, rfl, rfl⟩) (by rw [HCD.out]; rfl))
                  have HDL := Lib.hid (show cD.length = len * 10 + ((b.toNat : Int) - 48) ∧ cD.first = fst by rw [HCD.out, HLE.out, HFI.out]; exact ⟨rfl, rfl⟩)
                  by_cases hmx : 1000000 < len * 10 + ((b.toNat : Int) - 48)
                  {
                    have e1 : cD.digE 0 = cD.fail fst 3 := by unfold Cr.digE; rw [Int.zero_add, HDL.out.1, HDL.out.2, if_pos hmx]
                    have HF := Lib.hid (cFail_any hT cD _ fst 3 _ HQ.out.1)
                    rw [← e1] at HF
                    clear e1
                    go_wp2_with fail
                    (with_reducible refine (HF.out).mono ?_)
                    rintro e w' ⟨rfl, h1, h2⟩
                    go_wp2
                    go_end0
                    rw [E.out]
                    exact ⟨rfl, h1, HFC.out.trans (HPw.out.2.trans (HQ.out.2.trans h2))⟩
                  }
                  {
                    have e1 : cD.digE 0 = cD := by unfold Cr.digE; rw [Int.zero_add, HDL.out.1, if_neg hmx]
                    have E1 := Lib.hid e1
                    clear e1
                    have tmx := decide_eq_false hmx
                    go_wp2
                    go_end0
                    rw [E.out, E1.out]
                    exact ⟨rfl, ⟨_, HQ.out.1⟩, HFC.out.trans (HPw.out.2.trans HQ.out.2)⟩
                  }
        }
      }
  | false =>
    rw [hd] at HT
    by_cases h0 : 0 < n
    {
      have E := Lib.hid (show c.digit b = c.trail b true by unfold Cr.digit; rw [if_pos (.inl (by rw [hd]; rfl)), ← HN.out, decide_eq_true h0])
      have HG := Lib.hid (HTR.out true)
      clear hd
      go_enter Tryz.func190, Tryz.ntmps190
      go_wp2_with fail
      (with_reducible refine (HT.out).mono ?_)
      rintro e w2 ⟨rfl, rfl⟩
      go_wp2_with fail
      (with_reducible refine (HG.out).mono ?_)
      rintro e w' ⟨rfl, h1, h2⟩
      go_wp2
      go_end0
      rw [E.out]
      exact ⟨rfl, h1, h2⟩
    }
    {
      have E := Lib.hid (show c.digit b = c.trail b false by unfold Cr.digit; rw [if_pos (.inl (by rw [hd]; rfl)), ← HN.out, decide_eq_false h0])
      have HG := Lib.hid (HTR.out false)
      clear hd
      obtain ⟨g1, g2⟩ := (POSF h0).out
      clear h0 POSF
      go_enter Tryz.func190, Tryz.ntmps190
      go_wp2_with fail
      (with_reducible refine (HT.out).mono ?_)
      rintro e w2 ⟨rfl, rfl⟩
      go_wp2_with fail
      (with_reducible refine (HG.out).mono ?_)
      rintro e w' ⟨rfl, h1, h2⟩
      go_wp2
      go_end0
      rw [E.out]
      exact ⟨rfl, h1, h2⟩
    }
end
end Go.Proofs.YthfloagpmmohkaaGreatDoor
