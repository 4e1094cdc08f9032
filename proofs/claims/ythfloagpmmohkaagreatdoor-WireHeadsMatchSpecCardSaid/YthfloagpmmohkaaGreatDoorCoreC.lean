/- wire's reader of messages: the reason, the status, what stands behind a value. Printed by wip/gen_core.py. -/
import Derived.Test.YthfloagpmmohkaaGreatDoorCoreB
namespace Go.Proofs.YthfloagpmmohkaaGreatDoor
open Go Go.RowKit Go.Proofs

section
variable {T : TypeId} {ex : List Value} {K base : Nat}
set_option maxHeartbeats 4000000 in
set_option maxRecDepth 100000 in
theorem cTrail_any (hT : TyOk T) (c : Cr) (v : CrV) (b : UInt8) (good : Bool) (w : World) (h : CrR T ex w K base c v) (hp : -4000000000 ≤ c.pos ∧ c.pos ≤ 4000000000) (hl : -4000000000 ≤ c.line ∧ c.line ≤ 4000000000) :
    Calls Tryz.prog 200 #[.pointer (some ⟨K, 0, none⟩), .int .u8 (b.toNat : Int), .bool good] w (CrP T ex K base (c.trail b good) w) := by
  have HWR := Lib.hid (cWrong_any hT c v w h)
  have HBL := Lib.hid (isBlank_any b w)
  have HFU := Lib.hid (cFull_any c v w h hp hl)
  have HGO := Lib.hid (cGoOn_any hT c v 11 w h)
  have k1 := h.cell 1 (u := .int .i64 c.pos) rfl
  have k18 := h.cell 18 (u := .bool c.closed) rfl
  have z18 := h.frz 18
  have HH := Lib.hid h
  clear h hp hl
  cases good with
  | false =>
    have e : c.trail b false = c.wrong := rfl
    rw [e]
    clear e
    go_enter Tryz.func200, Tryz.ntmps200
    go_wp2_with fail
    (with_reducible refine (HWR.out).mono ?_)
    rintro e w' ⟨rfl, h1, h2⟩
    go_wp2
    go_end0
    exact ⟨rfl, h1, h2⟩
  | true =>
    by_cases h13 : b = 13
    {
      have e : c.trail b true = c.goOn 11 := by unfold Cr.trail; rw [if_neg (by simp), if_pos h13]
      rw [e]
      clear e
      subst h13
      go_enter Tryz.func200, Tryz.ntmps200
      go_wp2_with fail
      (with_reducible refine (HGO.out).mono ?_)
      rintro e w' ⟨rfl, h1, h2⟩
      go_wp2
      go_end0
      exact ⟨rfl, h1, h2⟩
    }
    {
      have e : c.trail b true = if !Cr.isBlk b then c.wrong else if c.full then c.fail c.pos 3 else { c with closed := true } := by unfold Cr.trail; rw [if_neg (by simp), if_neg h13]
      rw [e]
      clear e
      have t13 : ((b.toNat : Int) == 13) = false := by have h9 : b.toNat ≠ 13 := u8_ne h13; simp; omega
      clear h13
      cases hbl : Cr.isBlk b with
      | true =>
        rw [hbl] at HBL
        rw [show (!true) = false from rfl, if_neg (by simp)]
        cases hfu : c.full with
        | true =>
          rw [if_pos rfl]
          rw [hfu] at HFU
          go_enter Tryz.func200, Tryz.ntmps200
          go_wp2_with fail
          (with_reducible refine (HBL.out).mono ?_)
          rintro e w2 ⟨rfl, rfl⟩
          go_wp2_with fail
          (with_reducible refine (HFU.out).mono ?_)
          rintro e w3 ⟨rfl, hr2, hf2⟩
          have q1 := hr2.cell 1 (u := .int .i64 c.pos) rfl
          have HF := Lib.hid (cFail_any hT c v c.pos 3 w3 hr2)
          have HF2 := Lib.hid hf2
          clear hr2 hf2
          go_wp2_with fail
          (with_reducible refine (HF.out).mono ?_)
          rintro e w' ⟨rfl, h1, h2⟩
          go_wp2
          go_end0
          exact ⟨rfl, h1, HF2.out.trans h2⟩
        | false =>
          rw [if_neg (by simp)]
          rw [hfu] at HFU
          go_enter Tryz.func200, Tryz.ntmps200
          go_wp2_with fail
          (with_reducible refine (HBL.out).mono ?_)
          rintro e w2 ⟨rfl, rfl⟩
          go_wp2_with fail
          (with_reducible refine (HFU.out).mono ?_)
          rintro e w3 ⟨rfl, hr2, hf2⟩
          have q18 := hr2.cell 18 (u := .bool c.closed) rfl
          have y18 := hr2.frz 18
          have HP := Lib.hid (hr2.put hT (c' := { c with closed := true }) 18 (.bool true) rfl (by omega) rfl (fun hb => ⟨hb, rfl, rfl⟩) rfl)
          have HF2 := Lib.hid hf2
          clear hr2 hf2
          go_wp2
          go_end0
          exact ⟨rfl, ⟨_, HP.out.1⟩, HF2.out.trans HP.out.2⟩
      | false =>
        rw [hbl] at HBL
        rw [show (!false) = true from rfl, if_pos rfl]
        go_enter Tryz.func200, Tryz.ntmps200
        go_wp2_with fail
        (with_reducible refine (HBL.out).mono ?_)
        rintro e w2 ⟨rfl, rfl⟩
        go_wp2_with fail
        (with_reducible refine (HWR.out).mono ?_)
        rintro e w' ⟨rfl, h1, h2⟩
        go_wp2
        go_end0
        exact ⟨rfl, h1, h2⟩
    }
set_option maxHeartbeats 4000000 in
set_option maxRecDepth 100000 in
theorem cReason_any (hT : TyOk T) (c : Cr) (v : CrV) (b : UInt8) (w : World) (h : CrR T ex w K base c v) (hl : c.word.length ≤ 1000000000) :
    Calls Tryz.prog 163 #[.pointer (some ⟨K, 0, none⟩), .int .u8 (b.toNat : Int)] w (CrP T ex K base (c.reason b) w) := by
  obtain ⟨i0, hi, hz0, hz1, hz2⟩ := info_parts infoCU
  obtain ⟨A, k, hvw, hnc, hcm, hA⟩ := ownsRow_shape h.word
  have k11 := h.cell 11 (u := v.vw) rfl
  rw [hvw] at k11
  have HH := Lib.hid h
  have HO := h.word
  rw [hvw] at HO
  have hcvw := conv_own HO
  obtain ⟨n, hn⟩ : ∃ n, n = c.word.length := ⟨_, rfl⟩
  rw [← hn] at hvw hnc HO hcvw k11
  have HN := Lib.hid hn
  have HV := Lib.hid hvw
  have HO := Lib.hid HO
  have HWR := Lib.hid (cWrong_any hT c v w h)
  have hbw := h.bw
  have hKlt := h.lt
  unfold maxLen at hcm
  rw [← hn] at hl
  have HT := Lib.hid (inReason_any b w)
  clear h hvw hn
  by_cases h13 : b = 13
  {
    have e : c.reason b = ({ c with m := { c.m with reason := c.word } } : Cr).goOn 6 := by unfold Cr.reason; rw [if_pos h13]
    rw [e]
    clear e
    subst h13
    have b8 : w.cell? ⟨K, 8, none⟩ = some (tx c.m.reason) := HH.out.cell 8 rfl
    have z8 := HH.out.frz 8
    have HP := Lib.hid (HH.out.put hT (c' := { c with m := { c.m with reason := c.word } }) 8 (tx c.word) rfl (by omega) rfl (fun hb => ⟨hb, rfl, rfl⟩) rfl)
    have HG := Lib.hid (cGoOn_any hT _ _ 6 _ HP.out.1)
    go_enter Tryz.func163, Tryz.ntmps163
    go_wp2_with fail
    (with_reducible refine (HG.out).mono ?_)
    rintro e w' ⟨rfl, h1, h2⟩
    go_wp2
    go_end0
    exact ⟨rfl, h1, HP.out.2.trans h2⟩
  }
  {
    have t13 : ((b.toNat : Int) == 13) = false := by have h9 : b.toNat ≠ 13 := u8_ne h13; simp; omega
    cases hc : Cr.inRsn b with
    | true =>
      rw [hc] at HT
      by_cases hlt : n < 100
      {
        have e : c.reason b = { c with word := c.word ++ [b] } := by unfold Cr.reason; rw [if_neg h13, if_pos ⟨hc, by rw [← HN.out]; exact hlt⟩]
        rw [e]
        clear e h13 hc
        have HOw := HO
        have HHw := HH
        have HVw := HV
        go_enter Tryz.func163, Tryz.ntmps163
        go_wp2_with fail
        (with_reducible refine (HT.out).mono ?_)
        rintro e w2 ⟨rfl, rfl⟩
        go_wp2_with (at_builtin; go_loud (refine wpList_append_lies _ rfl _ _ 27 rfl base 5 i0 (.int .u8 0) 1 1 Tryz.underlying27 hi hz0 hz1 hz2 rfl (by decide) (.slice A n k) n (Lib.byteCells c.word) rfl (HOw.out.alloc _) ⟨w.heap.size, 0, none⟩ 1 1 [.int .u8 (b.toNat : Int)] rfl rfl ?c0 (by simp [Value.oneCell']) (by decide) ?c3 ?c4 ?c5 (w.heap.size + 1) (by simp) ?_))
        case c0 => have := cell_one_new w (.int .u8 (b.toNat : Int)) 5; simpa using this
        case c3 => unfold maxLen; omega
        case c4 => omega
        case c5 => have := HHw.out.bw; simp; omega
        intro gw capw waw how hgw hatw hltw
        obtain ⟨hbw, hfw⟩ := HHw.out.boxW hT (by rw [HVw.out]; exact hgw)
        have qww : waw.cell? ⟨K, 11, none⟩ = some (.slice A n k) := (box_cell hbw 11 (u := v.vw) rfl).trans (by rw [HVw.out])
        have yww : waw.frozen? ⟨K, 11, none⟩ = false := frozenAt hbw 11
        have HPw := Lib.hid (HHw.out.putW hT (u := .slice (some ⟨gw, 0, none⟩) (n + 1) capw) hfw (c.word ++ [b]) (by rw [List.length_append, byteCells_snoc, ← HN.out]; exact how) (by rw [HVw.out]; exact hatw.elim (fun e => .inl e.symm) (fun e => .inr (fun q hq => by have hq : q = gw := Option.some.inj hq; omega))))
        clear how hgw hatw hbw hfw hltw HOw
        go_wp2
        go_end0
        exact ⟨rfl, ⟨_, HPw.out.1⟩, HPw.out.2⟩
      }
      {
        have e : c.reason b = c.wrong := by unfold Cr.reason; rw [if_neg h13, if_neg (fun q => hlt (by rw [HN.out]; exact q.2))]
        rw [e]
        have f1 : decide (n < 100) = false := decide_eq_false hlt
        have f2 : decide ((n : Int) < 100) = false := decide_eq_false (by omega)
        clear e h13 hc hlt
        go_enter Tryz.func163, Tryz.ntmps163
        go_wp2_with fail
        (with_reducible refine (HT.out).mono ?_)
        rintro e w2 ⟨rfl, rfl⟩
        go_wp2_with fail
        (with_reducible refine (HWR.out).mono ?_)
        rintro e w' ⟨rfl, h1, h2⟩
        go_wp2
        go_end0
        exact ⟨rfl, h1, h2⟩
      }
    | false =>
      rw [hc] at HT
      have e : c.reason b = c.wrong := by unfold Cr.reason; rw [if_neg h13, if_neg (by rw [hc]; simp)]
      rw [e]
      clear e h13 hc
      go_enter Tryz.func163, Tryz.ntmps163
      go_wp2_with fail
      (with_reducible refine (HT.out).mono ?_)
      rintro e w2 ⟨rfl, rfl⟩
      go_wp2_with fail
      (with_reducible refine (HWR.out).mono ?_)
      rintro e w' ⟨rfl, h1, h2⟩
      go_wp2
      go_end0
      exact ⟨rfl, h1, h2⟩
  }
set_option maxHeartbeats 4000000 in
set_option maxRecDepth 100000 in
theorem cStatus_any (hT : TyOk T) (c : Cr) (v : CrV) (b : UInt8) (w : World) (h : CrR T ex w K base c v) (hl : c.word.length ≤ 1000000000) (hst : -1000000 ≤ c.m.status ∧ c.m.status ≤ 1000000) (hp : -4000000000 ≤ c.pos ∧ c.pos ≤ 4000000000) :
    Calls Tryz.prog 162 #[.pointer (some ⟨K, 0, none⟩), .int .u8 (b.toNat : Int)] w (CrP T ex K base (c.status b) w) := by
  obtain ⟨i0, hi, hz0, hz1, hz2⟩ := info_parts infoCU
  obtain ⟨A, k, hvw, hnc, hcm, hA⟩ := ownsRow_shape h.word
  have k11 := h.cell 11 (u := v.vw) rfl
  rw [hvw] at k11
  have HH := Lib.hid h
  have HO := h.word
  rw [hvw] at HO
  have hcvw := conv_own HO
  obtain ⟨n, hn⟩ : ∃ n, n = c.word.length := ⟨_, rfl⟩
  rw [← hn] at hvw hnc HO hcvw k11
  have HN := Lib.hid hn
  have HV := Lib.hid hvw
  have HO := Lib.hid HO
  have HWR := Lib.hid (cWrong_any hT c v w h)
  have hbw := h.bw
  have hKlt := h.lt
  unfold maxLen at hcm
  rw [← hn] at hl
  have HT := Lib.hid (isDigit_any b w)
  have b7 : w.cell? ⟨K, 7, none⟩ = some (.int .i64 c.m.status) := h.cell 7 rfl
  clear h hvw hn
  by_cases hlt : n < 3
  {
    cases hd : Cr.isDig b with
    | true =>
      rw [hd] at HT
      have hdd : 48 ≤ b.toNat ∧ b.toNat ≤ 57 := by simpa [Cr.isDig] using hd
      obtain ⟨s, hs⟩ : ∃ s, s = c.m.status * 10 + ((b.toNat : Int) - 48) := ⟨_, rfl⟩
      obtain ⟨c1, hc1⟩ : ∃ c1 : Cr, c1 = { c with word := c.word ++ [b], m := { c.m with status := s } } := ⟨_, rfl⟩
      have e : c.status b = if c1.word.length = 3 ∧ (c1.m.status < 100 ∨ 599 < c1.m.status) then c1.fail (c1.pos - 2) 9 else c1 := by unfold Cr.status; rw [if_pos ⟨by rw [← HN.out]; exact hlt, hd⟩, hc1, hs]
      have hl1 : c1.word.length = n + 1 := by rw [hc1, HN.out]; simp
      have hs1 : c1.m.status = s := by rw [hc1]
      have hp1 : c1.pos = c.pos := by rw [hc1]
      rw [hl1, hs1, hp1] at e
      by_cases h31 : n + 1 = 3
      {
        by_cases h100 : s < 100
        {
          have E := Lib.hid (show c.status b = c1.fail (c.pos - 2) 9 by rw [e, if_pos ⟨h31, .inl h100⟩])
          have a1 : decide (c.m.status * 10 + ((b.toNat : Int) - 48) < 100) = true := by rw [← hs]; exact decide_eq_true h100
          have t31 : ((n : Int) + 1 == 3) = true := by simp; omega
          clear e h31 h100
          have HS := Lib.hid hs
          have HC1 := Lib.hid hc1
          clear hd hs hc1 hl1 hs1 hp1
          have HOw := HO
          have HHw := HH
          have HVw := HV
          go_enter Tryz.func162, Tryz.ntmps162
          go_wp2_with fail
          (with_reducible refine (HT.out).mono ?_)
          rintro e w2 ⟨rfl, rfl⟩
          go_wp2_with (at_builtin; go_loud (refine wpList_append_lies _ rfl _ _ 27 rfl base 5 i0 (.int .u8 0) 1 1 Tryz.underlying27 hi hz0 hz1 hz2 rfl (by decide) (.slice A n k) n (Lib.byteCells c.word) rfl (HOw.out.alloc _) ⟨w.heap.size, 0, none⟩ 1 1 [.int .u8 (b.toNat : Int)] rfl rfl ?c0 (by simp [Value.oneCell']) (by decide) ?c3 ?c4 ?c5 (w.heap.size + 1) (by simp) ?_))
          case c0 => have := cell_one_new w (.int .u8 (b.toNat : Int)) 5; simpa using this
          case c3 => unfold maxLen; omega
          case c4 => omega
          case c5 => have := HHw.out.bw; simp; omega
          intro gw capw waw how hgw hatw hltw
          obtain ⟨hbw, hfw⟩ := HHw.out.boxW hT (by rw [HVw.out]; exact hgw)
          have qww : waw.cell? ⟨K, 11, none⟩ = some (.slice A n k) := (box_cell hbw 11 (u := v.vw) rfl).trans (by rw [HVw.out])
          have yww : waw.frozen? ⟨K, 11, none⟩ = false := frozenAt hbw 11
          have q7_w : waw.cell? ⟨K, 7, none⟩ = some (.int .i64 c.m.status) := box_cell hbw 7 rfl
          have y7_w : waw.frozen? ⟨K, 7, none⟩ = false := frozenAt hbw 7
          have q1_w : waw.cell? ⟨K, 1, none⟩ = some (.int .i64 c.pos) := box_cell hbw 1 rfl
          have y1_w : waw.frozen? ⟨K, 1, none⟩ = false := frozenAt hbw 1
          have HPw := Lib.hid (HHw.out.putW hT (u := .slice (some ⟨gw, 0, none⟩) (n + 1) capw) hfw (c.word ++ [b]) (by rw [List.length_append, byteCells_snoc, ← HN.out]; exact how) (by rw [HVw.out]; exact hatw.elim (fun e => .inl e.symm) (fun e => .inr (fun q hq => by have hq : q = gw := Option.some.inj hq; omega))))
          clear how hgw hatw hbw hfw hltw HOw
          have HQ := Lib.hid (HPw.out.1.put hT (c' := c1) 7 (.int .i64 s) (by rw [HC1.out]; rfl) (by omega) (by rw [HC1.out]) (fun hb => by rw [HC1.out] at hb ⊢; exact ⟨hb, rfl, rfl⟩) (by rw [HC1.out]))
          rw [HS.out] at HQ
          have HF := Lib.hid (cFail_any hT c1 _ (c.pos - 2) 9 _ HQ.out.1)
          go_wp2_with fail
          (with_reducible refine (HF.out).mono ?_)
          rintro e w' ⟨rfl, h1, h2⟩
          go_wp2
          go_end0
          rw [E.out]
          exact ⟨rfl, h1, HPw.out.2.trans (HQ.out.2.trans h2)⟩
        }
        {
          by_cases h599 : 599 < s
          {
            have E := Lib.hid (show c.status b = c1.fail (c.pos - 2) 9 by rw [e, if_pos ⟨h31, .inr h599⟩])
            have a1 : decide (c.m.status * 10 + ((b.toNat : Int) - 48) < 100) = false := by rw [← hs]; exact decide_eq_false h100
            have a2 : decide (599 < c.m.status * 10 + ((b.toNat : Int) - 48)) = true := by rw [← hs]; exact decide_eq_true h599
            have t31 : ((n : Int) + 1 == 3) = true := by simp; omega
            clear e h31 h100 h599
            have HS := Lib.hid hs
            have HC1 := Lib.hid hc1
            clear hd hs hc1 hl1 hs1 hp1
            have HOw := HO
            have HHw := HH
            have HVw := HV
            go_enter Tryz.func162, Tryz.ntmps162
            go_wp2_with fail
            (with_reducible refine (HT.out).mono ?_)
            rintro e w2 ⟨rfl, rfl⟩
            go_wp2_with (at_builtin; go_loud (refine wpList_append_lies _ rfl _ _ 27 rfl base 5 i0 (.int .u8 0) 1 1 Tryz.underlying27 hi hz0 hz1 hz2 rfl (by decide) (.slice A n k) n (Lib.byteCells c.word) rfl (HOw.out.alloc _) ⟨w.heap.size, 0, none⟩ 1 1 [.int .u8 (b.toNat : Int)] rfl rfl ?c0 (by simp [Value.oneCell']) (by decide) ?c3 ?c4 ?c5 (w.heap.size + 1) (by simp) ?_))
            case c0 => have := cell_one_new w (.int .u8 (b.toNat : Int)) 5; simpa using this
            case c3 => unfold maxLen; omega
            case c4 => omega
            case c5 => have := HHw.out.bw; simp; omega
            intro gw capw waw how hgw hatw hltw
            obtain ⟨hbw, hfw⟩ := HHw.out.boxW hT (by rw [HVw.out]; exact hgw)
            have qww : waw.cell? ⟨K, 11, none⟩ = some (.slice A n k) := (box_cell hbw 11 (u := v.vw) rfl).trans (by rw [HVw.out])
            have yww : waw.frozen? ⟨K, 11, none⟩ = false := frozenAt hbw 11
            have q7_w : waw.cell? ⟨K, 7, none⟩ = some (.int .i64 c.m.status) := box_cell hbw 7 rfl
            have y7_w : waw.frozen? ⟨K, 7, none⟩ = false := frozenAt hbw 7
            have q1_w : waw.cell? ⟨K, 1, none⟩ = some (.int .i64 c.pos) := box_cell hbw 1 rfl
            have y1_w : waw.frozen? ⟨K, 1, none⟩ = false := frozenAt hbw 1
            have HPw := Lib.hid (HHw.out.putW hT (u := .slice (some ⟨gw, 0, none⟩) (n + 1) capw) hfw (c.word ++ [b]) (by rw [List.length_append, byteCells_snoc, ← HN.out]; exact how) (by rw [HVw.out]; exact hatw.elim (fun e => .inl e.symm) (fun e => .inr (fun q hq => by have hq : q = gw := Option.some.inj hq; omega))))
            clear how hgw hatw hbw hfw hltw HOw
            have HQ := Lib.hid (HPw.out.1.put hT (c' := c1) 7 (.int .i64 s) (by rw [HC1.out]; rfl) (by omega) (by rw [HC1.out]) (fun hb => by rw [HC1.out] at hb ⊢; exact ⟨hb, rfl, rfl⟩) (by rw [HC1.out]))
            rw [HS.out] at HQ
            have HF := Lib.hid (cFail_any hT c1 _ (c.pos - 2) 9 _ HQ.out.1)
            go_wp2_with fail
            (with_reducible refine (HF.out).mono ?_)
            rintro e w' ⟨rfl, h1, h2⟩
            go_wp2
            go_end0
            rw [E.out]
            exact ⟨rfl, h1, HPw.out.2.trans (HQ.out.2.trans h2)⟩
          }
          {
            have E := Lib.hid (show c.status b = c1 by rw [e, if_neg (fun q => q.2.elim h100 h599)])
            have a1 : decide (c.m.status * 10 + ((b.toNat : Int) - 48) < 100) = false := by rw [← hs]; exact decide_eq_false h100
            have a2 : decide (599 < c.m.status * 10 + ((b.toNat : Int) - 48)) = false := by rw [← hs]; exact decide_eq_false h599
            have t31 : ((n : Int) + 1 == 3) = true := by simp; omega
            clear e h31 h100 h599
            have HS := Lib.hid hs
            have HC1 := Lib.hid hc1
            clear hd hs hc1 hl1 hs1 hp1
            have HOw := HO
            have HHw := HH
            have HVw := HV
            go_enter Tryz.func162, Tryz.ntmps162
            go_wp2_with fail
            (with_reducible refine (HT.out).mono ?_)
            rintro e w2 ⟨rfl, rfl⟩
            go_wp2_with (at_builtin; go_loud (refine wpList_append_lies _ rfl _ _ 27 rfl base 5 i0 (.int .u8 0) 1 1 Tryz.underlying27 hi hz0 hz1 hz2 rfl (by decide) (.slice A n k) n (Lib.byteCells c.word) rfl (HOw.out.alloc _) ⟨w.heap.size, 0, none⟩ 1 1 [.int .u8 (b.toNat : Int)] rfl rfl ?c0 (by simp [Value.oneCell']) (by decide) ?c3 ?c4 ?c5 (w.heap.size + 1) (by simp) ?_))
            case c0 => have := cell_one_new w (.int .u8 (b.toNat : Int)) 5; simpa using this
            case c3 => unfold maxLen; omega
            case c4 => omega
            case c5 => have := HHw.out.bw; simp; omega
            intro gw capw waw how hgw hatw hltw
            obtain ⟨hbw, hfw⟩ := HHw.out.boxW hT (by rw [HVw.out]; exact hgw)
            have qww : waw.cell? ⟨K, 11, none⟩ = some (.slice A n k) := (box_cell hbw 11 (u := v.vw) rfl).trans (by rw [HVw.out])
            have yww : waw.frozen? ⟨K, 11, none⟩ = false := frozenAt hbw 11
            have q7_w : waw.cell? ⟨K, 7, none⟩ = some (.int .i64 c.m.status) := box_cell hbw 7 rfl
            have y7_w : waw.frozen? ⟨K, 7, none⟩ = false := frozenAt hbw 7
            have q1_w : waw.cell? ⟨K, 1, none⟩ = some (.int .i64 c.pos) := box_cell hbw 1 rfl
            have y1_w : waw.frozen? ⟨K, 1, none⟩ = false := frozenAt hbw 1
            have HPw := Lib.hid (HHw.out.putW hT (u := .slice (some ⟨gw, 0, none⟩) (n + 1) capw) hfw (c.word ++ [b]) (by rw [List.length_append, byteCells_snoc, ← HN.out]; exact how) (by rw [HVw.out]; exact hatw.elim (fun e => .inl e.symm) (fun e => .inr (fun q hq => by have hq : q = gw := Option.some.inj hq; omega))))
            clear how hgw hatw hbw hfw hltw HOw
            have HQ := Lib.hid (HPw.out.1.put hT (c' := c1) 7 (.int .i64 s) (by rw [HC1.out]; rfl) (by omega) (by rw [HC1.out]) (fun hb => by rw [HC1.out] at hb ⊢; exact ⟨hb, rfl, rfl⟩) (by rw [HC1.out]))
            rw [HS.out] at HQ
            go_wp2
            go_end0
            rw [E.out]
            exact ⟨rfl, ⟨_, HQ.out.1⟩, HPw.out.2.trans HQ.out.2⟩
          }
        }
      }
      {
        have E := Lib.hid (show c.status b = c1 by rw [e, if_neg (fun q => h31 q.1)])
        have t31 : ((n : Int) + 1 == 3) = false := by simp; omega
        clear e h31
        have HS := Lib.hid hs
        have HC1 := Lib.hid hc1
        clear hd hs hc1 hl1 hs1 hp1
        have HOw := HO
        have HHw := HH
        have HVw := HV
        go_enter Tryz.func162, Tryz.ntmps162
        go_wp2_with fail
        (with_reducible refine (HT.out).mono ?_)
        rintro e w2 ⟨rfl, rfl⟩
        go_wp2_with (at_builtin; go_loud (refine wpList_append_lies _ rfl _ _ 27 rfl base 5 i0 (.int .u8 0) 1 1 Tryz.underlying27 hi hz0 hz1 hz2 rfl (by decide) (.slice A n k) n (Lib.byteCells c.word) rfl (HOw.out.alloc _) ⟨w.heap.size, 0, none⟩ 1 1 [.int .u8 (b.toNat : Int)] rfl rfl ?c0 (by simp [Value.oneCell']) (by decide) ?c3 ?c4 ?c5 (w.heap.size + 1) (by simp) ?_))
        case c0 => have := cell_one_new w (.int .u8 (b.toNat : Int)) 5; simpa using this
        case c3 => unfold maxLen; omega
        case c4 => omega
        case c5 => have := HHw.out.bw; simp; omega
        intro gw capw waw how hgw hatw hltw
        obtain ⟨hbw, hfw⟩ := HHw.out.boxW hT (by rw [HVw.out]; exact hgw)
        have qww : waw.cell? ⟨K, 11, none⟩ = some (.slice A n k) := (box_cell hbw 11 (u := v.vw) rfl).trans (by rw [HVw.out])
        have yww : waw.frozen? ⟨K, 11, none⟩ = false := frozenAt hbw 11
        have q7_w : waw.cell? ⟨K, 7, none⟩ = some (.int .i64 c.m.status) := box_cell hbw 7 rfl
        have y7_w : waw.frozen? ⟨K, 7, none⟩ = false := frozenAt hbw 7
        have q1_w : waw.cell? ⟨K, 1, none⟩ = some (.int .i64 c.pos) := box_cell hbw 1 rfl
        have y1_w : waw.frozen? ⟨K, 1, none⟩ = false := frozenAt hbw 1
        have HPw := Lib.hid (HHw.out.putW hT (u := .slice (some ⟨gw, 0, none⟩) (n + 1) capw) hfw (c.word ++ [b]) (by rw [List.length_append, byteCells_snoc, ← HN.out]; exact how) (by rw [HVw.out]; exact hatw.elim (fun e => .inl e.symm) (fun e => .inr (fun q hq => by have hq : q = gw := Option.some.inj hq; omega))))
        clear how hgw hatw hbw hfw hltw HOw
        have HQ := Lib.hid (HPw.out.1.put hT (c' := c1) 7 (.int .i64 s) (by rw [HC1.out]; rfl) (by omega) (by rw [HC1.out]) (fun hb => by rw [HC1.out] at hb ⊢; exact ⟨hb, rfl, rfl⟩) (by rw [HC1.out]))
        rw [HS.out] at HQ
        go_wp2
        go_end0
        rw [E.out]
        exact ⟨rfl, ⟨_, HQ.out.1⟩, HPw.out.2.trans HQ.out.2⟩
      }
    | false =>
      rw [hd] at HT
      have E := Lib.hid (show c.status b = c.wrong by unfold Cr.status; rw [if_neg (by rw [hd]; simp), if_neg (fun q => by have := q.1; rw [← HN.out] at this; omega)])
      have t3 : ((n : Int) == 3) = false := by simp; omega
      clear hd
      go_enter Tryz.func162, Tryz.ntmps162
      go_wp2_with fail
      (with_reducible refine (HT.out).mono ?_)
      rintro e w2 ⟨rfl, rfl⟩
      go_wp2_with fail
      (with_reducible refine (HWR.out).mono ?_)
      rintro e w' ⟨rfl, h1, h2⟩
      go_wp2
      go_end0
      rw [E.out]
      exact ⟨rfl, h1, h2⟩
  }
  {
    by_cases h3 : n = 3
    {
      by_cases h32 : b = 32
      {
        have E := Lib.hid (show c.status b = c.goOn 2 by unfold Cr.status; rw [if_neg (fun q => hlt (by rw [HN.out]; exact q.1)), if_pos ⟨by rw [← HN.out]; exact h3, h32⟩])
        subst h32
        have HG := Lib.hid (cGoOn_any hT c v 2 w HH.out)
        have t3 : ((n : Int) == 3) = true := by simp; omega
        have g1 : decide (n < 3) = false := decide_eq_false (by omega)
        have g2 : decide ((n : Int) < 3) = false := decide_eq_false (by omega)
        clear hlt h3
        go_enter Tryz.func162, Tryz.ntmps162
        go_wp2_with fail
        (with_reducible refine (HG.out).mono ?_)
        rintro e w' ⟨rfl, h1, h2⟩
        go_wp2
        go_end0
        rw [E.out]
        exact ⟨rfl, h1, h2⟩
      }
      {
        have E := Lib.hid (show c.status b = c.wrong by unfold Cr.status; rw [if_neg (fun q => hlt (by rw [HN.out]; exact q.1)), if_neg (fun q => h32 q.2)])
        have t32 : ((b.toNat : Int) == 32) = false := by have h9 : b.toNat ≠ 32 := u8_ne h32; simp; omega
        have t3 : ((n : Int) == 3) = true := by simp; omega
        have g1 : decide (n < 3) = false := decide_eq_false (by omega)
        have g2 : decide ((n : Int) < 3) = false := decide_eq_false (by omega)
        clear hlt h3 h32
        go_enter Tryz.func162, Tryz.ntmps162
        go_wp2_with fail
        (with_reducible refine (HWR.out).mono ?_)
        rintro e w' ⟨rfl, h1, h2⟩
        go_wp2
        go_end0
        rw [E.out]
        exact ⟨rfl, h1, h2⟩
      }
    }
    {
      have E := Lib.hid (show c.status b = c.wrong by unfold Cr.status; rw [if_neg (fun q => hlt (by rw [HN.out]; exact q.1)), if_neg (fun q => h3 (by rw [HN.out]; exact q.1))])
      have t3 : ((n : Int) == 3) = false := by simp; omega
      have g1 : decide (n < 3) = false := decide_eq_false (by omega)
      have g2 : decide ((n : Int) < 3) = false := decide_eq_false (by omega)
      clear hlt h3
      go_enter Tryz.func162, Tryz.ntmps162
      go_wp2_with fail
      (with_reducible refine (HWR.out).mono ?_)
      rintro e w' ⟨rfl, h1, h2⟩
      go_wp2
      go_end0
      rw [E.out]
      exact ⟨rfl, h1, h2⟩
    }
  }
end
end Go.Proofs.YthfloagpmmohkaaGreatDoor
