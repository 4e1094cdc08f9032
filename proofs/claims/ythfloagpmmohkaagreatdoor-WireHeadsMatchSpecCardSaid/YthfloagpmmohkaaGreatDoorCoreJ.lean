/- wire's reader of messages: behind the head; a byte of a body. Printed by wip/gen_core.py. -/
import Derived.Test.YthfloagpmmohkaaGreatDoorCoreF
namespace Go.Proofs.YthfloagpmmohkaaGreatDoor
open Go Go.RowKit Go.Proofs

section
variable {T : TypeId} {ex : List Value} {K base : Nat}
set_option maxHeartbeats 4000000 in
set_option maxRecDepth 100000 in
theorem cHeaded_any (hT : TyOk T) (c : Cr) (v : CrV) (w : World) (h : CrR T ex w K base c v) (hbg : c.begun = true) (hdl : c.done.length ≤ 1000000000) :
    Calls Tryz.prog 172 #[.pointer (some ⟨K, 0, none⟩)] w (CrP T ex K base c.headed w) := by
  have HG14 := Lib.hid (cGoOn_any hT c v 14 w h)
  have HG13 := Lib.hid (cGoOn_any hT c v 13 w h)
  have HFI := Lib.hid (cFinish_any hT c v w h hbg hdl)
  have k17 := h.cell 17 (u := .bool c.coding) rfl
  have k16 := h.cell 16 (u := .bool c.lengths) rfl
  have k14 := h.cell 14 (u := .int .i64 c.length) rfl
  clear h hbg hdl
  cases hcd : c.coding with
  | true =>
    rw [hcd] at k17
    have E := Lib.hid (show c.headed = c.goOn 14 by unfold Cr.headed; rw [if_pos hcd])
    clear hcd
    go_enter Tryz.func172, Tryz.ntmps172
    go_wp2_with fail
    (with_reducible refine (HG14.out).mono ?_)
    rintro e w' ⟨rfl, h1, h2⟩
    go_wp2
    go_end0
    rw [E.out]
    exact ⟨rfl, h1, h2⟩
  | false =>
    rw [hcd] at k17
    cases hln : c.lengths with
    | true =>
      rw [hln] at k16
      by_cases hp : 0 < c.length
      {
        have E := Lib.hid (show c.headed = c.goOn 13 by unfold Cr.headed; rw [if_neg (by rw [hcd]; simp), if_pos ⟨hln, hp⟩])
        have tp := decide_eq_true hp
        clear hcd hln
        go_enter Tryz.func172, Tryz.ntmps172
        go_wp2_with fail
        (with_reducible refine (HG13.out).mono ?_)
        rintro e w' ⟨rfl, h1, h2⟩
        go_wp2
        go_end0
        rw [E.out]
        exact ⟨rfl, h1, h2⟩
      }
      {
        have E := Lib.hid (show c.headed = c.finish by unfold Cr.headed; rw [if_neg (by rw [hcd]; simp), if_neg (fun q => hp q.2)])
        have tp := decide_eq_false hp
        clear hcd hln hp
        go_enter Tryz.func172, Tryz.ntmps172
        go_wp2_with fail
        (with_reducible refine (HFI.out).mono ?_)
        rintro e w' ⟨rfl, h1, h2⟩
        go_wp2
        go_end0
        rw [E.out]
        exact ⟨rfl, h1, h2⟩
      }
    | false =>
      rw [hln] at k16
      have E := Lib.hid (show c.headed = c.finish by unfold Cr.headed; rw [if_neg (by rw [hcd]; simp), if_neg (fun q => by have := q.1; rw [hln] at this; cases this)])
      clear hcd hln
      go_enter Tryz.func172, Tryz.ntmps172
      go_wp2_with fail
      (with_reducible refine (HFI.out).mono ?_)
      rintro e w' ⟨rfl, h1, h2⟩
      go_wp2
      go_end0
      rw [E.out]
      exact ⟨rfl, h1, h2⟩
set_option maxHeartbeats 4000000 in
set_option maxRecDepth 100000 in
theorem cData_any (hT : TyOk T) (c : Cr) (v : CrV) (b : UInt8) (w : World) (h : CrR T ex w K base c v) (hbg : c.begun = true) (hdl : c.done.length ≤ 1000000000) (hbl : c.body.length ≤ 1000000000) (hlen : -1000000000 ≤ c.length ∧ c.length ≤ 1000000000) :
    Calls Tryz.prog 173 #[.pointer (some ⟨K, 0, none⟩), .int .u8 (b.toNat : Int)] w (CrP T ex K base (c.data b) w) := by
  obtain ⟨i0, hi, hz0, hz1, hz2⟩ := info_parts infoCU
  obtain ⟨A, k, hvw, hnc, hcm, hA⟩ := ownsRow_shape (h.body hbg)
  have k19 := h.cell 19 (u := v.vb) rfl
  rw [hvw] at k19
  have HHw := Lib.hid h
  have HO := h.body hbg
  rw [hvw] at HO
  obtain ⟨n, hn⟩ : ∃ n, n = c.body.length := ⟨_, rfl⟩
  rw [← hn] at hvw hnc HO k19 hbl
  have HN := Lib.hid hn
  have HVw := Lib.hid hvw
  have HOw := Lib.hid HO
  have hbw := h.bw
  have hKlt := h.lt
  have HBG := Lib.hid hbg
  unfold maxLen at hcm
  obtain ⟨len, hlen2⟩ : ∃ z, z = c.length := ⟨_, rfl⟩
  rw [← hlen2] at hlen
  have HLE := Lib.hid hlen2
  obtain ⟨pl, hpl⟩ : ∃ z, z = c.place := ⟨_, rfl⟩
  have HPL := Lib.hid hpl
  obtain ⟨c2, hc2⟩ : ∃ x, x = { c with body := c.body ++ [b], length := len - 1 } := ⟨_, rfl⟩
  have HC2 := Lib.hid hc2
  have E0 := Lib.hid (show c.data b = if 0 < len - 1 then c2 else if pl = 16 then c2.goOn 17 else c2.finish by unfold Cr.data; rw [hc2, hlen2, hpl])
  clear h hvw hn hlen2 hpl hc2 HO
  go_enter Tryz.func173, Tryz.ntmps173
  go_wp2_with (at_builtin; go_loud (refine wpList_append_lies _ rfl _ _ 27 rfl base 5 i0 (.int .u8 0) 1 1 Tryz.underlying27 hi hz0 hz1 hz2 rfl (by decide) (.slice A n k) n (Lib.byteCells c.body) rfl (HOw.out.alloc _) ⟨w.heap.size, 0, none⟩ 1 1 [.int .u8 (b.toNat : Int)] rfl rfl ?c0 (by simp [Value.oneCell']) (by decide) ?c3 ?c4 ?c5 (w.heap.size + 1) (by simp) ?_))
  case c0 => have := cell_one_new w (.int .u8 (b.toNat : Int)) 5; simpa using this
  case c3 => unfold maxLen; omega
  case c4 => omega
  case c5 => have := HHw.out.bw; simp; omega
  intro gw capw waw how hgw hatw hltw
  obtain ⟨hbw, hfw⟩ := HHw.out.boxB hT HBG.out (by rw [HVw.out]; exact hgw)
  have qww : waw.cell? ⟨K, 19, none⟩ = some (.slice A n k) := (box_cell hbw 19 (u := v.vb) rfl).trans (by rw [HVw.out])
  have yww : waw.frozen? ⟨K, 19, none⟩ = false := frozenAt hbw 19
  have q14_w : waw.cell? ⟨K, 14, none⟩ = some (.int .i64 c.length) := box_cell hbw 14 rfl
  have y14_w : waw.frozen? ⟨K, 14, none⟩ = false := frozenAt hbw 14
  have q2_w : waw.cell? ⟨K, 2, none⟩ = some (.int .i64 c.place) := box_cell hbw 2 rfl
  have y2_w : waw.frozen? ⟨K, 2, none⟩ = false := frozenAt hbw 2
  have HPw := Lib.hid (HHw.out.putB hT HBG.out (u := .slice (some ⟨gw, 0, none⟩) (n + 1) capw) hfw (c.body ++ [b]) (by rw [List.length_append, byteCells_snoc, ← HN.out]; exact how) (by rw [HVw.out]; exact hatw.elim (fun e => .inl e.symm) (fun e => .inr (fun q hq => by have hq : q = gw := Option.some.inj hq; omega))))
  clear how hgw hatw hbw hfw hltw HOw
  rw [← HLE.out] at q14_w
  rw [← HPL.out] at q2_w
  have HQ := Lib.hid (HPw.out.1.put hT (c' := c2) 14 (.int .i64 (len - 1)) (by rw [HC2.out]; rfl) (by omega) (by rw [HC2.out]) (fun hb => by rw [HC2.out] at hb ⊢; exact ⟨hb, rfl, rfl⟩) (by rw [HC2.out]))
  have HB2 := Lib.hid (show c2.begun = true by rw [HC2.out]; exact HBG.out)
  have HD2 := Lib.hid (show c2.done.length ≤ 1000000000 by rw [HC2.out]; exact hdl)
  by_cases hp : 0 < len - 1
  {
    have tp := decide_eq_true hp
    have tp2 : decide (1 < len) = true := decide_eq_true (by omega)
    have E := Lib.hid (show c.data b = c2 by rw [E0.out, if_pos hp])
    go_wp2
    go_end0
    rw [E.out]
    exact ⟨rfl, ⟨_, HQ.out.1⟩, HPw.out.2.trans HQ.out.2⟩
  }
  {
    have tp := decide_eq_false hp
    have tp2 : decide (1 < len) = false := decide_eq_false (by omega)
    by_cases h16 : pl = 16
    {
      have E := Lib.hid (show c.data b = c2.goOn 17 by rw [E0.out, if_neg hp, if_pos h16])
      have t16 : (pl == 16) = true := by simp [h16]
      have HG := Lib.hid (cGoOn_any hT c2 _ 17 _ HQ.out.1)
      clear hp h16
      go_wp2_with fail
      (with_reducible refine (HG.out).mono ?_)
      rintro e w' ⟨rfl, h1, h2⟩
      go_wp2
      go_end0
      rw [E.out]
      exact ⟨rfl, h1, HPw.out.2.trans (HQ.out.2.trans h2)⟩
    }
    {
      have E := Lib.hid (show c.data b = c2.finish by rw [E0.out, if_neg hp, if_neg h16])
      have t16 : (pl == 16) = false := by simp [h16]
      have HG := Lib.hid (cFinish_any hT c2 _ _ HQ.out.1 HB2.out HD2.out)
      clear hp h16
      go_wp2_with fail
      (with_reducible refine (HG.out).mono ?_)
      rintro e w' ⟨rfl, h1, h2⟩
      go_wp2
      go_end0
      rw [E.out]
      exact ⟨rfl, h1, HPw.out.2.trans (HQ.out.2.trans h2)⟩
    }
  }
end
end Go.Proofs.YthfloagpmmohkaaGreatDoor
