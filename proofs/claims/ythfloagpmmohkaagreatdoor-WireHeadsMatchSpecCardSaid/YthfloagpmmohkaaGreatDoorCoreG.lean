/- wire's reader of messages: a byte of a name; a byte of a body, but for its end. Printed by wip/gen_core.py. -/
import Derived.Test.YthfloagpmmohkaaGreatDoorCoreN
namespace Go.Proofs.YthfloagpmmohkaaGreatDoor
open Go Go.RowKit Go.Proofs

section
variable {T : TypeId} {ex : List Value} {K base : Nat}
set_option maxHeartbeats 4000000 in
set_option maxRecDepth 100000 in
theorem cName_any (hT : TyOk T) (c : Cr) (v : CrV) (b : UInt8) (w : World) (h : CrR T ex w K base c v) (hbg : c.begun = true) (hl : c.word.length ≤ 1000000000) (hhl : c.m.head.length ≤ 1000) :
    Calls Tryz.prog 167 #[.pointer (some ⟨K, 0, none⟩), .int .u8 (b.toNat : Int)] w (CrP T ex K base (c.name b) w) := by
  obtain ⟨i0, hi, hz0, hz1, hz2⟩ := info_parts infoCU
  obtain ⟨A, k, hvw, hnc, hcm, hA⟩ := ownsRow_shape h.word
  have k11 := h.cell 11 (u := v.vw) rfl
  rw [hvw] at k11
  have HH := Lib.hid h
  have HO := h.word
  rw [hvw] at HO
  have hcvw := conv_own HO
  obtain ⟨n, hn⟩ : ∃ n, n = c.word.length := ⟨_, rfl⟩
  rw [← hn] at hvw hnc HO hcvw k11
  have HN := Lib.hid hn
  have HV := Lib.hid hvw
  have HO := Lib.hid HO
  have HWR := Lib.hid (cWrong_any hT c v w h)
  have hbw := h.bw
  have hKlt := h.lt
  unfold maxLen at hcm
  rw [← hn] at hl
  have HT := Lib.hid (fun q => inToken_any b (w.drewN q))
  have HRQ := Lib.hid (fun q => h.drewN q)
  have HWQ := Lib.hid (fun q => cWrong_any hT c v (w.drewN q) (h.drewN q))
  have HGQ := Lib.hid (fun q => cGoOn_any hT c v 12 (w.drewN q) (h.drewN q))
  have HNQ := Lib.hid (fun q => cNamed_any hT c v (w.drewN q) (h.drewN q) hbg (by rw [← hn]; exact hl) hhl)
  have HFQ := Lib.hid (fun q => (CrF.refl K w).drewN q)
  have k1 := h.cell 1 (u := .int .i64 c.pos) rfl
  have k12 := h.cell 12 (u := .int .i64 c.line) rfl
  clear h hvw hn hbg hhl
  by_cases h12 : b = 13 ∧ c.pos = c.line
  {
    have E := Lib.hid (show c.name b = c.goOn 12 by unfold Cr.name; rw [if_pos h12])
    obtain ⟨h13, hpl⟩ := h12
    have t13 : ((b.toNat : Int) == 13) = true := by rw [h13]; rfl
    have tpl : (c.pos == c.line) = true := by simp [hpl]
    clear h13 hpl
    go_enter Tryz.func167, Tryz.ntmps167
    go_upto_region 0 with fail
    go_big_quiet (fail)
    go_wp2_with fail
    (with_reducible refine (HGQ.out nq).mono ?_)
    rintro e w' ⟨rfl, h1, h2⟩
    go_wp2
    go_end0
    rw [E.out]
    exact ⟨rfl, h1, (HFQ.out _).trans h2⟩
  }
  {
    by_cases h58 : b = 58 ∧ c.word ≠ []
    {
      have E := Lib.hid (show c.name b = c.named by unfold Cr.name; rw [if_neg h12, if_pos h58])
      obtain ⟨h58, hne⟩ := h58
      have hpos : 0 < n := by rw [HN.out]; exact List.length_pos_iff.2 hne
      have t58 : ((b.toNat : Int) == 58) = true := by rw [h58]; rfl
      have t13 : ((b.toNat : Int) == 13) = false := by rw [h58]; rfl
      clear h58 hne h12
      go_enter Tryz.func167, Tryz.ntmps167
      go_upto_region 0 with fail
      go_big_quiet (fail)
      go_wp2_with fail
      (with_reducible refine (HNQ.out nq).mono ?_)
      rintro e w' ⟨rfl, h1, h2⟩
      go_wp2
      go_end0
      rw [E.out]
      exact ⟨rfl, h1, (HFQ.out _).trans h2⟩
    }
    {
      cases ht : Cr.inTok b with
      | true =>
        by_cases h100 : n = 100
        {
          have E := Lib.hid (show c.name b = c.wrong by unfold Cr.name; rw [if_neg h12, if_neg h58, if_pos (.inr (by rw [← HN.out]; exact h100))])
          have t100 : ((n : Int) == 100) = true := by simp; omega
          clear h100
          by_cases hq : b = 13
          {
            have t13 : ((b.toNat : Int) == 13) = true := by rw [hq]; rfl
            have tpl : (c.pos == c.line) = false := by have : ¬ c.pos = c.line := fun e => h12 ⟨hq, e⟩; simpa using this
            clear hq h12
            by_cases hq8 : b = 58
            {
              have t58 : ((b.toNat : Int) == 58) = true := by rw [hq8]; rfl
              have hn0 : ¬ 0 < n := fun q => h58 ⟨hq8, fun e => by rw [HN.out, e] at q; simp at q⟩
              have g1 : decide (0 < n) = false := decide_eq_false hn0
              have g2 : decide ((0 : Int) < (n : Int)) = false := decide_eq_false (by omega)
              clear hq8 hn0 h58
              go_enter Tryz.func167, Tryz.ntmps167
              go_upto_region 0 with fail
              go_big_quiet (fail)
              have HT2 := HT.out nq
              rw [ht] at HT2
              have HT2 := Lib.hid HT2
              go_wp2_with fail
              (with_reducible refine (HT2.out).mono ?_)
              rintro e w2 ⟨rfl, rfl⟩
              go_wp2_with fail
              (with_reducible refine (HWQ.out nq).mono ?_)
              rintro e w' ⟨rfl, h1, h2⟩
              go_wp2
              go_end0
              rw [E.out]
              exact ⟨rfl, h1, (HFQ.out _).trans h2⟩
            }
            {
              have t58 : ((b.toNat : Int) == 58) = false := by have h9 : b.toNat ≠ 58 := u8_ne hq8; simp; omega
              clear hq8 h58
              go_enter Tryz.func167, Tryz.ntmps167
              go_upto_region 0 with fail
              go_big_quiet (fail)
              have HT2 := HT.out nq
              rw [ht] at HT2
              have HT2 := Lib.hid HT2
              go_wp2_with fail
              (with_reducible refine (HT2.out).mono ?_)
              rintro e w2 ⟨rfl, rfl⟩
              go_wp2_with fail
              (with_reducible refine (HWQ.out nq).mono ?_)
              rintro e w' ⟨rfl, h1, h2⟩
              go_wp2
              go_end0
              rw [E.out]
              exact ⟨rfl, h1, (HFQ.out _).trans h2⟩
            }
          }
          {
            have t13 : ((b.toNat : Int) == 13) = false := by have h9 : b.toNat ≠ 13 := u8_ne hq; simp; omega
            clear hq h12
            by_cases hq8 : b = 58
            {
              have t58 : ((b.toNat : Int) == 58) = true := by rw [hq8]; rfl
              have hn0 : ¬ 0 < n := fun q => h58 ⟨hq8, fun e => by rw [HN.out, e] at q; simp at q⟩
              have g1 : decide (0 < n) = false := decide_eq_false hn0
              have g2 : decide ((0 : Int) < (n : Int)) = false := decide_eq_false (by omega)
              clear hq8 hn0 h58
              go_enter Tryz.func167, Tryz.ntmps167
              go_upto_region 0 with fail
              go_big_quiet (fail)
              have HT2 := HT.out nq
              rw [ht] at HT2
              have HT2 := Lib.hid HT2
              go_wp2_with fail
              (with_reducible refine (HT2.out).mono ?_)
              rintro e w2 ⟨rfl, rfl⟩
              go_wp2_with fail
              (with_reducible refine (HWQ.out nq).mono ?_)
              rintro e w' ⟨rfl, h1, h2⟩
              go_wp2
              go_end0
              rw [E.out]
              exact ⟨rfl, h1, (HFQ.out _).trans h2⟩
            }
            {
              have t58 : ((b.toNat : Int) == 58) = false := by have h9 : b.toNat ≠ 58 := u8_ne hq8; simp; omega
              clear hq8 h58
              go_enter Tryz.func167, Tryz.ntmps167
              go_upto_region 0 with fail
              go_big_quiet (fail)
              have HT2 := HT.out nq
              rw [ht] at HT2
              have HT2 := Lib.hid HT2
              go_wp2_with fail
              (with_reducible refine (HT2.out).mono ?_)
              rintro e w2 ⟨rfl, rfl⟩
              go_wp2_with fail
              (with_reducible refine (HWQ.out nq).mono ?_)
              rintro e w' ⟨rfl, h1, h2⟩
              go_wp2
              go_end0
              rw [E.out]
              exact ⟨rfl, h1, (HFQ.out _).trans h2⟩
            }
          }
        }
        {
          have E := Lib.hid (show c.name b = { c with word := c.word ++ [b] } by unfold Cr.name; rw [if_neg h12, if_neg h58, if_neg (fun q => q.elim (fun q => by rw [ht] at q; cases q) (fun q => h100 (by rw [HN.out]; exact q)))])
          have t100 : ((n : Int) == 100) = false := by simp; omega
          clear h100
          by_cases hq : b = 13
          {
            have t13 : ((b.toNat : Int) == 13) = true := by rw [hq]; rfl
            have tpl : (c.pos == c.line) = false := by have : ¬ c.pos = c.line := fun e => h12 ⟨hq, e⟩; simpa using this
            clear hq h12
            by_cases hq8 : b = 58
            {
              have t58 : ((b.toNat : Int) == 58) = true := by rw [hq8]; rfl
              have hn0 : ¬ 0 < n := fun q => h58 ⟨hq8, fun e => by rw [HN.out, e] at q; simp at q⟩
              have g1 : decide (0 < n) = false := decide_eq_false hn0
              have g2 : decide ((0 : Int) < (n : Int)) = false := decide_eq_false (by omega)
              clear hq8 hn0 h58
              have HOw := HO
              have HHw := HH
              have HVw := HV
              go_enter Tryz.func167, Tryz.ntmps167
              go_upto_region 0 with fail
              go_big_quiet (fail)
              have HT2 := HT.out nq
              rw [ht] at HT2
              have HT2 := Lib.hid HT2
              clear ht
              go_wp2_with fail
              (with_reducible refine (HT2.out).mono ?_)
              rintro e w2 ⟨rfl, rfl⟩
              obtain ⟨wq, hwq⟩ : ∃ W, W = w.drewN nq := ⟨_, rfl⟩
              have HHw := Lib.hid (show CrR T ex wq K base c v by rw [hwq]; exact HRQ.out nq)
              have HOw := HHw.out.word
              rw [HV.out, ← HN.out] at HOw
              have HOw := Lib.hid HOw
              have HFw := Lib.hid (show CrF K w wq by rw [hwq]; exact HFQ.out nq)
              have hbw := HHw.out.bw
              have hKlt := HHw.out.lt
              rw [← hwq]
              have k11 : wq.cell? ⟨K, 11, none⟩ = some (.slice A n k) := by rw [← HV.out]; exact HHw.out.cell 11 rfl
              clear hwq k1 k12
              go_wp2_with (at_builtin; go_loud (refine wpList_append_lies _ rfl _ _ 27 rfl base 5 i0 (.int .u8 0) 1 1 Tryz.underlying27 hi hz0 hz1 hz2 rfl (by decide) (.slice A n k) n (Lib.byteCells c.word) rfl (HOw.out.alloc _) ⟨wq.heap.size, 0, none⟩ 1 1 [.int .u8 (b.toNat : Int)] rfl rfl ?c0 (by simp [Value.oneCell']) (by decide) ?c3 ?c4 ?c5 (wq.heap.size + 1) (by simp) ?_))
              case c0 => have := cell_one_new wq (.int .u8 (b.toNat : Int)) 5; simpa using this
              case c3 => unfold maxLen; omega
              case c4 => omega
              case c5 => have := HHw.out.bw; simp; omega
              intro gw capw waw how hgw hatw hltw
              obtain ⟨hbw, hfw⟩ := HHw.out.boxW hT (by rw [HVw.out]; exact hgw)
              have qww : waw.cell? ⟨K, 11, none⟩ = some (.slice A n k) := (box_cell hbw 11 (u := v.vw) rfl).trans (by rw [HVw.out])
              have yww : waw.frozen? ⟨K, 11, none⟩ = false := frozenAt hbw 11
              have HPw := Lib.hid (HHw.out.putW hT (u := .slice (some ⟨gw, 0, none⟩) (n + 1) capw) hfw (c.word ++ [b]) (by rw [List.length_append, byteCells_snoc, ← HN.out]; exact how) (by rw [HVw.out]; exact hatw.elim (fun e => .inl e.symm) (fun e => .inr (fun q hq => by have hq : q = gw := Option.some.inj hq; omega))))
              clear how hgw hatw hbw hfw hltw HOw
              go_wp2
              go_end0
              rw [E.out]
              exact ⟨rfl, ⟨_, HPw.out.1⟩, HFw.out.trans HPw.out.2⟩
            }
            {
              have t58 : ((b.toNat : Int) == 58) = false := by have h9 : b.toNat ≠ 58 := u8_ne hq8; simp; omega
              clear hq8 h58
              have HOw := HO
              have HHw := HH
              have HVw := HV
              go_enter Tryz.func167, Tryz.ntmps167
              go_upto_region 0 with fail
              go_big_quiet (fail)
              have HT2 := HT.out nq
              rw [ht] at HT2
              have HT2 := Lib.hid HT2
              clear ht
              go_wp2_with fail
              (with_reducible refine (HT2.out).mono ?_)
              rintro e w2 ⟨rfl, rfl⟩
              obtain ⟨wq, hwq⟩ : ∃ W, W = w.drewN nq := ⟨_, rfl⟩
              have HHw := Lib.hid (show CrR T ex wq K base c v by rw [hwq]; exact HRQ.out nq)
              have HOw := HHw.out.word
              rw [HV.out, ← HN.out] at HOw
              have HOw := Lib.hid HOw
              have HFw := Lib.hid (show CrF K w wq by rw [hwq]; exact HFQ.out nq)
              have hbw := HHw.out.bw
              have hKlt := HHw.out.lt
              rw [← hwq]
              have k11 : wq.cell? ⟨K, 11, none⟩ = some (.slice A n k) := by rw [← HV.out]; exact HHw.out.cell 11 rfl
              clear hwq k1 k12
              go_wp2_with (at_builtin; go_loud (refine wpList_append_lies _ rfl _ _ 27 rfl base 5 i0 (.int .u8 0) 1 1 Tryz.underlying27 hi hz0 hz1 hz2 rfl (by decide) (.slice A n k) n (Lib.byteCells c.word) rfl (HOw.out.alloc _) ⟨wq.heap.size, 0, none⟩ 1 1 [.int .u8 (b.toNat : Int)] rfl rfl ?c0 (by simp [Value.oneCell']) (by decide) ?c3 ?c4 ?c5 (wq.heap.size + 1) (by simp) ?_))
              case c0 => have := cell_one_new wq (.int .u8 (b.toNat : Int)) 5; simpa using this
              case c3 => unfold maxLen; omega
              case c4 => omega
              case c5 => have := HHw.out.bw; simp; omega
              intro gw capw waw how hgw hatw hltw
              obtain ⟨hbw, hfw⟩ := HHw.out.boxW hT (by rw [HVw.out]; exact hgw)
              have qww : waw.cell? ⟨K, 11, none⟩ = some (.slice A n k) := (box_cell hbw 11 (u := v.vw) rfl).trans (by rw [HVw.out])
              have yww : waw.frozen? ⟨K, 11, none⟩ = false := frozenAt hbw 11
              have HPw := Lib.hid (HHw.out.putW hT (u := .slice (some ⟨gw, 0, none⟩) (n + 1) capw) hfw (c.word ++ [b]) (by rw [List.length_append, byteCells_snoc, ← HN.out]; exact how) (by rw [HVw.out]; exact hatw.elim (fun e => .inl e.symm) (fun e => .inr (fun q hq => by have hq : q = gw := Option.some.inj hq; omega))))
              clear how hgw hatw hbw hfw hltw HOw
              go_wp2
              go_end0
              rw [E.out]
              exact ⟨rfl, ⟨_, HPw.out.1⟩, HFw.out.trans HPw.out.2⟩
            }
          }
          {
            have t13 : ((b.toNat : Int) == 13) = false := by have h9 : b.toNat ≠ 13 := u8_ne hq; simp; omega
            clear hq h12
            by_cases hq8 : b = 58
            {
              have t58 : ((b.toNat : Int) == 58) = true := by rw [hq8]; rfl
              have hn0 : ¬ 0 < n := fun q => h58 ⟨hq8, fun e => by rw [HN.out, e] at q; simp at q⟩
              have g1 : decide (0 < n) = false := decide_eq_false hn0
              have g2 : decide ((0 : Int) < (n : Int)) = false := decide_eq_false (by omega)
              clear hq8 hn0 h58
              have HOw := HO
              have HHw := HH
              have HVw := HV
              go_enter Tryz.func167, Tryz.ntmps167
              go_upto_region 0 with fail
              go_big_quiet (fail)
              have HT2 := HT.out nq
              rw [ht] at HT2
              have HT2 := Lib.hid HT2
              clear ht
              go_wp2_with fail
              (with_reducible refine (HT2.out).mono ?_)
              rintro e w2 ⟨rfl, rfl⟩
              obtain ⟨wq, hwq⟩ : ∃ W, W = w.drewN nq := ⟨_, rfl⟩
              have HHw := Lib.hid (show CrR T ex wq K base c v by rw [hwq]; exact HRQ.out nq)
              have HOw := HHw.out.word
              rw [HV.out, ← HN.out] at HOw
              have HOw := Lib.hid HOw
              have HFw := Lib.hid (show CrF K w wq by rw [hwq]; exact HFQ.out nq)
              have hbw := HHw.out.bw
              have hKlt := HHw.out.lt
              rw [← hwq]
              have k11 : wq.cell? ⟨K, 11, none⟩ = some (.slice A n k) := by rw [← HV.out]; exact HHw.out.cell 11 rfl
              clear hwq k1 k12
              go_wp2_with (at_builtin; go_loud (refine wpList_append_lies _ rfl _ _ 27 rfl base 5 i0 (.int .u8 0) 1 1 Tryz.underlying27 hi hz0 hz1 hz2 rfl (by decide) (.slice A n k) n (Lib.byteCells c.word) rfl (HOw.out.alloc _) ⟨wq.heap.size, 0, none⟩ 1 1 [.int .u8 (b.toNat : Int)] rfl rfl ?c0 (by simp [Value.oneCell']) (by decide) ?c3 ?c4 ?c5 (wq.heap.size + 1) (by simp) ?_))
              case c0 => have := cell_one_new wq (.int .u8 (b.toNat : Int)) 5; simpa using this
              case c3 => unfold maxLen; omega
              case c4 => omega
              case c5 => have := HHw.out.bw; simp; omega
              intro gw capw waw how hgw hatw hltw
              obtain ⟨hbw, hfw⟩ := HHw.out.boxW hT (by rw [HVw.out]; exact hgw)
              have qww : waw.cell? ⟨K, 11, none⟩ = some (.slice A n k) := (box_cell hbw 11 (u := v.vw) rfl).trans (by rw [HVw.out])
              have yww : waw.frozen? ⟨K, 11, none⟩ = false := frozenAt hbw 11
              have HPw := Lib.hid (HHw.out.putW hT (u := .slice (some ⟨gw, 0, none⟩) (n + 1) capw) hfw (c.word ++ [b]) (by rw [List.length_append, byteCells_snoc, ← HN.out]; exact how) (by rw [HVw.out]; exact hatw.elim (fun e => .inl e.symm) (fun e => .inr (fun q hq => by have hq : q = gw := Option.some.inj hq; omega))))
              clear how hgw hatw hbw hfw hltw HOw
              go_wp2
              go_end0
              rw [E.out]
              exact ⟨rfl, ⟨_, HPw.out.1⟩, HFw.out.trans HPw.out.2⟩
            }
            {
              have t58 : ((b.toNat : Int) == 58) = false := by have h9 : b.toNat ≠ 58 := u8_ne hq8; simp; omega
              clear hq8 h58
              have HOw := HO
              have HHw := HH
              have HVw := HV
              go_enter Tryz.func167, Tryz.ntmps167
              go_upto_region 0 with fail
              go_big_quiet (fail)
              have HT2 := HT.out nq
              rw [ht] at HT2
              have HT2 := Lib.hid HT2
              clear ht
              go_wp2_with fail
              (with_reducible refine (HT2.out).mono ?_)
              rintro e w2 ⟨rfl, rfl⟩
              obtain ⟨wq, hwq⟩ : ∃ W, W = w.drewN nq := ⟨_, rfl⟩
              have HHw := Lib.hid (show CrR T ex wq K base c v by rw [hwq]; exact HRQ.out nq)
              have HOw := HHw.out.word
              rw [HV.out, ← HN.out] at HOw
              have HOw := Lib.hid HOw
              have HFw := Lib.hid (show CrF K w wq by rw [hwq]; exact HFQ.out nq)
              have hbw := HHw.out.bw
              have hKlt := HHw.out.lt
              rw [← hwq]
              have k11 : wq.cell? ⟨K, 11, none⟩ = some (.slice A n k) := by rw [← HV.out]; exact HHw.out.cell 11 rfl
              clear hwq k1 k12
              go_wp2_with (at_builtin; go_loud (refine wpList_append_lies _ rfl _ _ 27 rfl base 5 i0 (.int .u8 0) 1 1 Tryz.underlying27 hi hz0 hz1 hz2 rfl (by decide) (.slice A n k) n (Lib.byteCells c.word) rfl (HOw.out.alloc _) ⟨wq.heap.size, 0, none⟩ 1 1 [.int .u8 (b.toNat : Int)] rfl rfl ?c0 (by simp [Value.oneCell']) (by decide) ?c3 ?c4 ?c5 (wq.heap.size + 1) (by simp) ?_))
              case c0 => have := cell_one_new wq (.int .u8 (b.toNat : Int)) 5; simpa using this
              case c3 => unfold maxLen; omega
              case c4 => omega
              case c5 => have := HHw.out.bw; simp; omega
              intro gw capw waw how hgw hatw hltw
              obtain ⟨hbw, hfw⟩ := HHw.out.boxW hT (by rw [HVw.out]; exact hgw)
              have qww : waw.cell? ⟨K, 11, none⟩ = some (.slice A n k) := (box_cell hbw 11 (u := v.vw) rfl).trans (by rw [HVw.out])
              have yww : waw.frozen? ⟨K, 11, none⟩ = false := frozenAt hbw 11
              have HPw := Lib.hid (HHw.out.putW hT (u := .slice (some ⟨gw, 0, none⟩) (n + 1) capw) hfw (c.word ++ [b]) (by rw [List.length_append, byteCells_snoc, ← HN.out]; exact how) (by rw [HVw.out]; exact hatw.elim (fun e => .inl e.symm) (fun e => .inr (fun q hq => by have hq : q = gw := Option.some.inj hq; omega))))
              clear how hgw hatw hbw hfw hltw HOw
              go_wp2
              go_end0
              rw [E.out]
              exact ⟨rfl, ⟨_, HPw.out.1⟩, HFw.out.trans HPw.out.2⟩
            }
          }
        }
      | false =>
        have E := Lib.hid (show c.name b = c.wrong by unfold Cr.name; rw [if_neg h12, if_neg h58, if_pos (.inl (by rw [ht]; rfl))])
        by_cases hq : b = 13
        {
          have t13 : ((b.toNat : Int) == 13) = true := by rw [hq]; rfl
          have tpl : (c.pos == c.line) = false := by have : ¬ c.pos = c.line := fun e => h12 ⟨hq, e⟩; simpa using this
          clear hq h12
          by_cases hq8 : b = 58
          {
            have t58 : ((b.toNat : Int) == 58) = true := by rw [hq8]; rfl
            have hn0 : ¬ 0 < n := fun q => h58 ⟨hq8, fun e => by rw [HN.out, e] at q; simp at q⟩
            have g1 : decide (0 < n) = false := decide_eq_false hn0
            have g2 : decide ((0 : Int) < (n : Int)) = false := decide_eq_false (by omega)
            clear hq8 hn0 h58
            go_enter Tryz.func167, Tryz.ntmps167
            go_upto_region 0 with fail
            go_big_quiet (fail)
            have HT2 := HT.out nq
            rw [ht] at HT2
            have HT2 := Lib.hid HT2
            go_wp2_with fail
            (with_reducible refine (HT2.out).mono ?_)
            rintro e w2 ⟨rfl, rfl⟩
            go_wp2_with fail
            (with_reducible refine (HWQ.out nq).mono ?_)
            rintro e w' ⟨rfl, h1, h2⟩
            go_wp2
            go_end0
            rw [E.out]
            exact ⟨rfl, h1, (HFQ.out _).trans h2⟩
          }
          {
            have t58 : ((b.toNat : Int) == 58) = false := by have h9 : b.toNat ≠ 58 := u8_ne hq8; simp; omega
            clear hq8 h58
            go_enter Tryz.func167, Tryz.ntmps167
            go_upto_region 0 with fail
            go_big_quiet (fail)
            have HT2 := HT.out nq
            rw [ht] at HT2
            have HT2 := Lib.hid HT2
            go_wp2_with fail
            (with_reducible refine (HT2.out).mono ?_)
            rintro e w2 ⟨rfl, rfl⟩
            go_wp2_with fail
            (with_reducible refine (HWQ.out nq).mono ?_)
            rintro e w' ⟨rfl, h1, h2⟩
            go_wp2
            go_end0
            rw [E.out]
            exact ⟨rfl, h1, (HFQ.out _).trans h2⟩
          }
        }
        {
          have t13 : ((b.toNat : Int) == 13) = false := by have h9 : b.toNat ≠ 13 := u8_ne hq; simp; omega
          clear hq h12
          by_cases hq8 : b = 58
          {
            have t58 : ((b.toNat : Int) == 58) = true := by rw [hq8]; rfl
            have hn0 : ¬ 0 < n := fun q => h58 ⟨hq8, fun e => by rw [HN.out, e] at q; simp at q⟩
            have g1 : decide (0 < n) = false := decide_eq_false hn0
            have g2 : decide ((0 : Int) < (n : Int)) = false := decide_eq_false (by omega)
            clear hq8 hn0 h58
            go_enter Tryz.func167, Tryz.ntmps167
            go_upto_region 0 with fail
            go_big_quiet (fail)
            have HT2 := HT.out nq
            rw [ht] at HT2
            have HT2 := Lib.hid HT2
            go_wp2_with fail
            (with_reducible refine (HT2.out).mono ?_)
            rintro e w2 ⟨rfl, rfl⟩
            go_wp2_with fail
            (with_reducible refine (HWQ.out nq).mono ?_)
            rintro e w' ⟨rfl, h1, h2⟩
            go_wp2
            go_end0
            rw [E.out]
            exact ⟨rfl, h1, (HFQ.out _).trans h2⟩
          }
          {
            have t58 : ((b.toNat : Int) == 58) = false := by have h9 : b.toNat ≠ 58 := u8_ne hq8; simp; omega
            clear hq8 h58
            go_enter Tryz.func167, Tryz.ntmps167
            go_upto_region 0 with fail
            go_big_quiet (fail)
            have HT2 := HT.out nq
            rw [ht] at HT2
            have HT2 := Lib.hid HT2
            go_wp2_with fail
            (with_reducible refine (HT2.out).mono ?_)
            rintro e w2 ⟨rfl, rfl⟩
            go_wp2_with fail
            (with_reducible refine (HWQ.out nq).mono ?_)
            rintro e w' ⟨rfl, h1, h2⟩
            go_wp2
            go_end0
            rw [E.out]
            exact ⟨rfl, h1, (HFQ.out _).trans h2⟩
          }
        }
    }
  }
end
end Go.Proofs.YthfloagpmmohkaaGreatDoor
