/- wire's reader of messages: a byte of the first line, of the lines of the head, of a body. Printed by wip/gen_core.py. -/
import Derived.Test.YthfloagpmmohkaaGreatDoorCoreI
import Derived.Test.YthfloagpmmohkaaGreatDoorCoreG
import Derived.Test.YthfloagpmmohkaaGreatDoorCoreJ
import Derived.Test.YthfloagpmmohkaaGreatDoorCoreV
import Derived.Test.YthfloagpmmohkaaGreatDoorCoreS
namespace Go.Proofs.YthfloagpmmohkaaGreatDoor
open Go Go.RowKit Go.Proofs

section
variable {T : TypeId} {ex : List Value} {K base : Nat}
set_option maxHeartbeats 4000000 in
set_option maxRecDepth 100000 in
theorem cHead_any (hT : TyOk T) (c : Cr) (v : CrV) (b : UInt8) (w : World) (h : CrR T ex w K base c v) (hf : c.Fit) :
    Calls Tryz.prog 138 #[.pointer (some ⟨K, 0, none⟩), .int .u8 (b.toNat : Int)] w (CrP T ex K base (c.head b) w) := by
  obtain ⟨pl, hpl⟩ : ∃ z, z = c.place := ⟨_, rfl⟩
  have HPL := Lib.hid hpl
  have k2 := h.cell 2 (u := .int .i64 c.place) rfl
  rw [← hpl] at k2
  clear hpl
  have HH := Lib.hid h
  have HF := Lib.hid hf
  have hbw := h.bw
  have hKlt := h.lt
  by_cases p0 : pl = 0
  {
    have t0 : (pl == 0) = true := by simp [p0]
    have HDG := Lib.hid (show Calls Tryz.prog 161 #[.pointer (some ⟨K, 0, none⟩), .int .u8 (b.toNat : Int), .string ⟨#[72, 84, 84, 80, 47, 49, 46, 49, 32]⟩, .int .i64 1] w (CrP T ex K base (c.fixed b (Cr.vers ++ [32]) 1) w) from cFixed_any hT c v b (Cr.vers ++ [32]) 1 w h (hf.f0 (.inl (by rw [← HPL.out]; exact p0))) (by decide))
    have E := Lib.hid (show c.head b = c.fixed b (Cr.vers ++ [32]) 1 by unfold Cr.head; rw [if_pos (by rw [← HPL.out]; exact p0)])
    clear h hf
    go_enter Tryz.func138, Tryz.ntmps138
    go_wp2_with fail
    (with_reducible refine (HDG.out).mono ?_)
    rintro e w' ⟨rfl, h1, h2⟩
    go_wp2
    go_end0
    rw [E.out]
    exact ⟨rfl, h1, h2⟩
  }
  {
    have t0 : (pl == 0) = false := by simp [p0]
    by_cases p1 : pl = 1
    {
      have t1 : (pl == 1) = true := by simp [p1]
      have HDG := Lib.hid (cStatus_any hT c v b w h hf.w hf.st hf.pos)
      have E := Lib.hid (show c.head b = c.status b by unfold Cr.head; rw [if_neg (by rw [← HPL.out]; exact p0), if_pos (by rw [← HPL.out]; exact p1)])
      clear h hf
      go_enter Tryz.func138, Tryz.ntmps138
      go_wp2_with fail
      (with_reducible refine (HDG.out).mono ?_)
      rintro e w' ⟨rfl, h1, h2⟩
      go_wp2
      go_end0
      rw [E.out]
      exact ⟨rfl, h1, h2⟩
    }
    {
      have t1 : (pl == 1) = false := by simp [p1]
      by_cases p2 : pl = 2
      {
        have t2 : (pl == 2) = true := by simp [p2]
        have HDG := Lib.hid (cReason_any hT c v b w h hf.w)
        have E := Lib.hid (show c.head b = c.reason b by unfold Cr.head; rw [if_neg (by rw [← HPL.out]; exact p0), if_neg (by rw [← HPL.out]; exact p1), if_pos (by rw [← HPL.out]; exact p2)])
        clear h hf
        go_enter Tryz.func138, Tryz.ntmps138
        go_wp2_with fail
        (with_reducible refine (HDG.out).mono ?_)
        rintro e w' ⟨rfl, h1, h2⟩
        go_wp2
        go_end0
        rw [E.out]
        exact ⟨rfl, h1, h2⟩
      }
      {
        have t2 : (pl == 2) = false := by simp [p2]
        by_cases p3 : pl = 3
        {
          have t3 : (pl == 3) = true := by simp [p3]
          have HDG := Lib.hid (cMethod_any hT c v b w h hf.w)
          have E := Lib.hid (show c.head b = c.method b by unfold Cr.head; rw [if_neg (by rw [← HPL.out]; exact p0), if_neg (by rw [← HPL.out]; exact p1), if_neg (by rw [← HPL.out]; exact p2), if_pos (by rw [← HPL.out]; exact p3)])
          clear h hf
          go_enter Tryz.func138, Tryz.ntmps138
          go_wp2_with fail
          (with_reducible refine (HDG.out).mono ?_)
          rintro e w' ⟨rfl, h1, h2⟩
          go_wp2
          go_end0
          rw [E.out]
          exact ⟨rfl, h1, h2⟩
        }
        {
          have t3 : (pl == 3) = false := by simp [p3]
          by_cases p4 : pl = 4
          {
            have t4 : (pl == 4) = true := by simp [p4]
            have HDG := Lib.hid (cTarget_any hT c v b w h hf.w)
            have E := Lib.hid (show c.head b = c.target b by unfold Cr.head; rw [if_neg (by rw [← HPL.out]; exact p0), if_neg (by rw [← HPL.out]; exact p1), if_neg (by rw [← HPL.out]; exact p2), if_neg (by rw [← HPL.out]; exact p3), if_pos (by rw [← HPL.out]; exact p4)])
            clear h hf
            go_enter Tryz.func138, Tryz.ntmps138
            go_wp2_with fail
            (with_reducible refine (HDG.out).mono ?_)
            rintro e w' ⟨rfl, h1, h2⟩
            go_wp2
            go_end0
            rw [E.out]
            exact ⟨rfl, h1, h2⟩
          }
          {
            have t4 : (pl == 4) = false := by simp [p4]
            by_cases p5 : pl = 5
            {
              have t5 : (pl == 5) = true := by simp [p5]
              have HDG := Lib.hid (show Calls Tryz.prog 161 #[.pointer (some ⟨K, 0, none⟩), .int .u8 (b.toNat : Int), .string ⟨#[72, 84, 84, 80, 47, 49, 46, 49, 13]⟩, .int .i64 6] w (CrP T ex K base (c.fixed b (Cr.vers ++ [13]) 6) w) from cFixed_any hT c v b (Cr.vers ++ [13]) 6 w h (hf.f0 (.inr (by rw [← HPL.out]; exact p5))) (by decide))
              have E := Lib.hid (show c.head b = c.fixed b (Cr.vers ++ [13]) 6 by unfold Cr.head; rw [if_neg (by rw [← HPL.out]; exact p0), if_neg (by rw [← HPL.out]; exact p1), if_neg (by rw [← HPL.out]; exact p2), if_neg (by rw [← HPL.out]; exact p3), if_neg (by rw [← HPL.out]; exact p4), if_pos (by rw [← HPL.out]; exact p5)])
              clear h hf
              go_enter Tryz.func138, Tryz.ntmps138
              go_wp2_with fail
              (with_reducible refine (HDG.out).mono ?_)
              rintro e w' ⟨rfl, h1, h2⟩
              go_wp2
              go_end0
              rw [E.out]
              exact ⟨rfl, h1, h2⟩
            }
            {
              have t5 : (pl == 5) = false := by simp [p5]
              have HDG := Lib.hid (cFeed_any hT c v b 7 w h)
              have E := Lib.hid (show c.head b = c.feed b 7 by unfold Cr.head; rw [if_neg (by rw [← HPL.out]; exact p0), if_neg (by rw [← HPL.out]; exact p1), if_neg (by rw [← HPL.out]; exact p2), if_neg (by rw [← HPL.out]; exact p3), if_neg (by rw [← HPL.out]; exact p4), if_neg (by rw [← HPL.out]; exact p5)])
              clear h hf
              go_enter Tryz.func138, Tryz.ntmps138
              go_wp2_with fail
              (with_reducible refine (HDG.out).mono ?_)
              rintro e w' ⟨rfl, h1, h2⟩
              go_wp2
              go_end0
              rw [E.out]
              exact ⟨rfl, h1, h2⟩
            }
          }
        }
      }
    }
  }
theorem Cr.feed_begun (c : Cr) (b : UInt8) (n : Int) : (c.feed b n).begun = c.begun := by unfold Cr.feed Cr.wrong Cr.fail Cr.goOn; split; (split <;> rfl); rfl
theorem Cr.feed_done (c : Cr) (b : UInt8) (n : Int) : (c.feed b n).done = c.done := by unfold Cr.feed Cr.wrong Cr.fail Cr.goOn; split; (split <;> rfl); rfl
set_option maxHeartbeats 4000000 in
set_option maxRecDepth 100000 in
theorem cPair_any (hT : TyOk T) (c : Cr) (v : CrV) (b : UInt8) (w : World) (h : CrR T ex w K base c v) (hbg : c.begun = true) (hf : c.Fit) :
    Calls Tryz.prog 139 #[.pointer (some ⟨K, 0, none⟩), .int .u8 (b.toNat : Int)] w (CrP T ex K base (c.pair b) w) := by
  obtain ⟨pl, hpl⟩ : ∃ z, z = c.place := ⟨_, rfl⟩
  have HPL := Lib.hid hpl
  have k2 := h.cell 2 (u := .int .i64 c.place) rfl
  rw [← hpl] at k2
  clear hpl
  have HH := Lib.hid h
  have HF := Lib.hid hf
  have hbw := h.bw
  have hKlt := h.lt
  by_cases p7 : pl = 7
  {
    have t7 : (pl == 7) = true := by simp [p7]
    have HPa := Lib.hid (h.put hT (c' := { c with line := c.pos }) 12 (.int .i64 c.pos) rfl (by omega) rfl (fun hb => ⟨hb, rfl, rfl⟩) rfl)
    have HPb := Lib.hid (HPa.out.1.put hT (c' := { c with line := c.pos, place := 8 }) 2 (.int .i64 8) rfl (by omega) rfl (fun hb => ⟨hb, rfl, rfl⟩) rfl)
    have HDG := Lib.hid (cName_any hT _ v b _ HPb.out.1 hbg hf.w hf.hl)
    have E := Lib.hid (show c.pair b = ({ c with line := c.pos, place := 8 } : Cr).name b by unfold Cr.pair; rw [if_pos (by rw [← HPL.out]; exact p7)])
    have k1 := h.cell 1 (u := .int .i64 c.pos) rfl
    have k12 := h.cell 12 (u := .int .i64 c.line) rfl
    have z12 := h.frz 12
    have z2 := h.frz 2
    clear h hf
    go_enter Tryz.func139, Tryz.ntmps139
    go_wp2_with fail
    (with_reducible refine (HDG.out).mono ?_)
    rintro e w' ⟨rfl, h1, h2⟩
    go_wp2
    go_end0
    rw [E.out]
    exact ⟨rfl, h1, HPa.out.2.trans (HPb.out.2.trans h2)⟩
  }
  {
    have t7 : (pl == 7) = false := by simp [p7]
    by_cases p8 : pl = 8
    {
      have t8 : (pl == 8) = true := by simp [p8]
      have HDG := Lib.hid (cName_any hT c v b w h hbg hf.w hf.hl)
      have E := Lib.hid (show c.pair b = c.name b by unfold Cr.pair; rw [if_neg (by rw [← HPL.out]; exact p7), if_pos (by rw [← HPL.out]; exact p8)])
      clear h hf
      go_enter Tryz.func139, Tryz.ntmps139
      go_wp2_with fail
      (with_reducible refine (HDG.out).mono ?_)
      rintro e w' ⟨rfl, h1, h2⟩
      go_wp2
      go_end0
      rw [E.out]
      exact ⟨rfl, h1, h2⟩
    }
    {
      have t8 : (pl == 8) = false := by simp [p8]
      by_cases p9 : pl = 9
      {
        have t9 : (pl == 9) = true := by simp [p9]
        have E0 := Lib.hid (show c.pair b = (if !Cr.isBlk b then ({ c with place := 10 } : Cr).value b else if c.full then c.fail c.pos 3 else c) by unfold Cr.pair; rw [if_neg (by rw [← HPL.out]; exact p7), if_neg (by rw [← HPL.out]; exact p8), if_pos (by rw [← HPL.out]; exact p9)])
        have HBL := Lib.hid (isBlank_any b w)
        have HFU := Lib.hid (cFull_any c v w h hf.pos hf.line)
        cases hbl : Cr.isBlk b with
        | true =>
          cases hfu : c.full with
          | true =>
            have E := Lib.hid (show c.pair b = c.fail c.pos 3 by rw [E0.out, hbl, hfu]; rfl)
            rw [hbl] at HBL
            rw [hfu] at HFU
            clear h hf
            go_enter Tryz.func139, Tryz.ntmps139
            go_wp2_with fail
            (with_reducible refine (HBL.out).mono ?_)
            rintro e w2 ⟨rfl, rfl⟩
            go_wp2_with fail
            (with_reducible refine (HFU.out).mono ?_)
            rintro e w3 ⟨rfl, hr2, hf2⟩
            have q1 := hr2.cell 1 (u := .int .i64 c.pos) rfl
            have HFL := Lib.hid (cFail_any hT c v c.pos 3 w3 hr2)
            have HF2 := Lib.hid hf2
            clear hr2 hf2
            go_wp2_with fail
            (with_reducible refine (HFL.out).mono ?_)
            rintro e w' ⟨rfl, h1, h2⟩
            go_wp2
            go_end0
            rw [E.out]
            exact ⟨rfl, h1, HF2.out.trans h2⟩
          | false =>
            have E := Lib.hid (show c.pair b = c by rw [E0.out, hbl, hfu]; rfl)
            rw [hbl] at HBL
            rw [hfu] at HFU
            clear h hf
            go_enter Tryz.func139, Tryz.ntmps139
            go_wp2_with fail
            (with_reducible refine (HBL.out).mono ?_)
            rintro e w2 ⟨rfl, rfl⟩
            go_wp2_with fail
            (with_reducible refine (HFU.out).mono ?_)
            rintro e w3 ⟨rfl, hr2, hf2⟩
            have HF2 := Lib.hid hf2
            have HR2 := Lib.hid hr2
            clear hr2 hf2
            go_wp2
            go_end0
            rw [E.out]
            exact ⟨rfl, ⟨_, HR2.out⟩, HF2.out⟩
        | false =>
          have HPa := Lib.hid (h.put hT (c' := { c with place := 10 }) 2 (.int .i64 10) rfl (by omega) rfl (fun hb => ⟨hb, rfl, rfl⟩) rfl)
          have HDG := Lib.hid (cValue_any hT _ v b _ HPa.out.1 hbg hf.w hf.w hf.len hf.pos hf.line (hf.ck (.inl (by rw [← HPL.out]; exact p9))) (hf.hn (.inl (by rw [← HPL.out]; exact p9))) hf.hl)
          have E := Lib.hid (show c.pair b = ({ c with place := 10 } : Cr).value b by rw [E0.out, hbl]; rfl)
          rw [hbl] at HBL
          have z2 := h.frz 2
          clear h hf
          go_enter Tryz.func139, Tryz.ntmps139
          go_wp2_with fail
          (with_reducible refine (HBL.out).mono ?_)
          rintro e w2 ⟨rfl, rfl⟩
          go_wp2_with fail
          (with_reducible refine (HDG.out).mono ?_)
          rintro e w' ⟨rfl, h1, h2⟩
          go_wp2
          go_end0
          rw [E.out]
          exact ⟨rfl, h1, HPa.out.2.trans h2⟩
      }
      {
        have t9 : (pl == 9) = false := by simp [p9]
        by_cases p10 : pl = 10
        {
          have t10 : (pl == 10) = true := by simp [p10]
          have HDG := Lib.hid (cValue_any hT c v b w h hbg hf.w hf.w hf.len hf.pos hf.line (hf.ck (.inr (by rw [← HPL.out]; exact p10))) (hf.hn (.inr (by rw [← HPL.out]; exact p10))) hf.hl)
          have E := Lib.hid (show c.pair b = c.value b by unfold Cr.pair; rw [if_neg (by rw [← HPL.out]; exact p7), if_neg (by rw [← HPL.out]; exact p8), if_neg (by rw [← HPL.out]; exact p9), if_pos (by rw [← HPL.out]; exact p10)])
          clear h hf
          go_enter Tryz.func139, Tryz.ntmps139
          go_wp2_with fail
          (with_reducible refine (HDG.out).mono ?_)
          rintro e w' ⟨rfl, h1, h2⟩
          go_wp2
          go_end0
          rw [E.out]
          exact ⟨rfl, h1, h2⟩
        }
        {
          have t10 : (pl == 10) = false := by simp [p10]
          by_cases p11 : pl = 11
          {
            have t11 : (pl == 11) = true := by simp [p11]
            have HDG := Lib.hid (cFeed_any hT c v b 7 w h)
            have E := Lib.hid (show c.pair b = c.feed b 7 by unfold Cr.pair; rw [if_neg (by rw [← HPL.out]; exact p7), if_neg (by rw [← HPL.out]; exact p8), if_neg (by rw [← HPL.out]; exact p9), if_neg (by rw [← HPL.out]; exact p10), if_pos (by rw [← HPL.out]; exact p11)])
            clear h hf
            go_enter Tryz.func139, Tryz.ntmps139
            go_wp2_with fail
            (with_reducible refine (HDG.out).mono ?_)
            rintro e w' ⟨rfl, h1, h2⟩
            go_wp2
            go_end0
            rw [E.out]
            exact ⟨rfl, h1, h2⟩
          }
          {
            have t11 : (pl == 11) = false := by simp [p11]
            obtain ⟨c2, hc2⟩ : ∃ x, x = c.feed b 12 := ⟨_, rfl⟩
            have HC2 := Lib.hid hc2
            have HDG := Lib.hid (cFeed_any hT c v b 12 w h)
            rw [← hc2] at HDG
            have E0 := Lib.hid (show c.pair b = (if c2.no = 0 then c2.headed else c2) by unfold Cr.pair; rw [if_neg (by rw [← HPL.out]; exact p7), if_neg (by rw [← HPL.out]; exact p8), if_neg (by rw [← HPL.out]; exact p9), if_neg (by rw [← HPL.out]; exact p10), if_neg (by rw [← HPL.out]; exact p11), hc2])
            have HBG := Lib.hid (show c2.begun = true by rw [hc2, Cr.feed_begun]; exact hbg)
            have HDL := Lib.hid (show c2.done.length ≤ 1000000000 by rw [hc2, Cr.feed_done]; exact hf.dl)
            obtain ⟨z, hz⟩ : ∃ z, z = c2.no := ⟨_, rfl⟩
            have HZ := Lib.hid hz
            clear hc2 hz
            by_cases hz0 : z = 0
            {
              have t0 : (z == 0) = true := by simp [hz0]
              have E := Lib.hid (show c.pair b = c2.headed by rw [E0.out, if_pos (by rw [← HZ.out]; exact hz0)])
              clear hz0
              clear h hf
              go_enter Tryz.func139, Tryz.ntmps139
              go_wp2_with fail
              (with_reducible refine (HDG.out).mono ?_)
              rintro e w2 ⟨rfl, ⟨v2, hr2⟩, hf2⟩
              have q22 := hr2.cell 22 (u := .int .i64 c2.no) rfl
              rw [← HZ.out] at q22
              have HF2 := Lib.hid hf2
              have HR2 := Lib.hid hr2
              have HT2 := Lib.hid (cHeaded_any hT c2 v2 w2 hr2 HBG.out HDL.out)
              clear hr2 hf2
              go_wp2_with fail
              (with_reducible refine (HT2.out).mono ?_)
              rintro e w' ⟨rfl, h1, h2⟩
              go_wp2
              go_end0
              rw [E.out]
              exact ⟨rfl, h1, HF2.out.trans h2⟩
            }
            {
              have t0 : (z == 0) = false := by simp [hz0]
              have E := Lib.hid (show c.pair b = c2 by rw [E0.out, if_neg (by rw [← HZ.out]; exact hz0)])
              clear hz0
              clear h hf
              go_enter Tryz.func139, Tryz.ntmps139
              go_wp2_with fail
              (with_reducible refine (HDG.out).mono ?_)
              rintro e w2 ⟨rfl, ⟨v2, hr2⟩, hf2⟩
              have q22 := hr2.cell 22 (u := .int .i64 c2.no) rfl
              rw [← HZ.out] at q22
              have HF2 := Lib.hid hf2
              have HR2 := Lib.hid hr2
              clear hr2 hf2
              go_wp2
              go_end0
              rw [E.out]
              exact ⟨rfl, ⟨_, HR2.out⟩, HF2.out⟩
            }
          }
        }
      }
    }
  }
set_option maxHeartbeats 4000000 in
set_option maxRecDepth 100000 in
theorem cContent_any (hT : TyOk T) (c : Cr) (v : CrV) (b : UInt8) (w : World) (h : CrR T ex w K base c v) (hbg : c.begun = true) (hf : c.Fit) :
    Calls Tryz.prog 140 #[.pointer (some ⟨K, 0, none⟩), .int .u8 (b.toNat : Int)] w (CrP T ex K base (c.content b) w) := by
  obtain ⟨pl, hpl⟩ : ∃ z, z = c.place := ⟨_, rfl⟩
  have HPL := Lib.hid hpl
  have k2 := h.cell 2 (u := .int .i64 c.place) rfl
  rw [← hpl] at k2
  clear hpl
  have HH := Lib.hid h
  have HF := Lib.hid hf
  have hbw := h.bw
  have hKlt := h.lt
  by_cases p13 : pl = 13
  {
    have t13 : (pl == 13) = true := by simp [p13]
    have HDG := Lib.hid (cData_any hT c v b w h hbg hf.dl hf.bl ⟨by have := hf.len.1; omega, hf.len.2⟩)
    have E := Lib.hid (show c.content b = c.data b by unfold Cr.content; rw [if_pos (.inl (by rw [← HPL.out]; exact p13))])
    clear h hf
    go_enter Tryz.func140, Tryz.ntmps140
    go_wp2_with fail
    (with_reducible refine (HDG.out).mono ?_)
    rintro e w' ⟨rfl, h1, h2⟩
    go_wp2
    go_end0
    rw [E.out]
    exact ⟨rfl, h1, h2⟩
  }
  {
    have t13 : (pl == 13) = false := by simp [p13]
    by_cases p16 : pl = 16
    {
      have t16 : (pl == 16) = true := by simp [p16]
      have HDG := Lib.hid (cData_any hT c v b w h hbg hf.dl hf.bl ⟨by have := hf.len.1; omega, hf.len.2⟩)
      have E := Lib.hid (show c.content b = c.data b by unfold Cr.content; rw [if_pos (.inr (by rw [← HPL.out]; exact p16))])
      clear h hf
      go_enter Tryz.func140, Tryz.ntmps140
      go_wp2_with fail
      (with_reducible refine (HDG.out).mono ?_)
      rintro e w' ⟨rfl, h1, h2⟩
      go_wp2
      go_end0
      rw [E.out]
      exact ⟨rfl, h1, h2⟩
    }
    {
      have t16 : (pl == 16) = false := by simp [p16]
      by_cases p14 : pl = 14
      {
        have t14 : (pl == 14) = true := by simp [p14]
        have HDG := Lib.hid (cSize_any hT c v b w h hbg hf.w hf.len hf.bl)
        have E := Lib.hid (show c.content b = c.size b by unfold Cr.content; rw [if_neg (fun q => q.elim (fun q => p13 (by rw [HPL.out]; exact q)) (fun q => p16 (by rw [HPL.out]; exact q))), if_pos (by rw [← HPL.out]; exact p14)])
        clear h hf
        go_enter Tryz.func140, Tryz.ntmps140
        go_wp2_with fail
        (with_reducible refine (HDG.out).mono ?_)
        rintro e w' ⟨rfl, h1, h2⟩
        go_wp2
        go_end0
        rw [E.out]
        exact ⟨rfl, h1, h2⟩
      }
      {
        have t14 : (pl == 14) = false := by simp [p14]
        by_cases p15 : pl = 15
        {
          have t15 : (pl == 15) = true := by simp [p15]
          have E0 := Lib.hid (show c.content b = c.feed b (if c.length = 0 then 19 else 16) by unfold Cr.content; rw [if_neg (fun q => q.elim (fun q => p13 (by rw [HPL.out]; exact q)) (fun q => p16 (by rw [HPL.out]; exact q))), if_neg (by rw [← HPL.out]; exact p14), if_pos (by rw [← HPL.out]; exact p15)])
          obtain ⟨len, hlen⟩ : ∃ z, z = c.length := ⟨_, rfl⟩
          have HLE := Lib.hid hlen
          have k14 := h.cell 14 (u := .int .i64 c.length) rfl
          rw [← hlen] at k14
          clear hlen
          by_cases hl0 : len = 0
          {
            have HDG := Lib.hid (cFeed_any hT c v b 19 w h)
            have t0 : (len == 0) = true := by simp [hl0]
            have E := Lib.hid (show c.content b = c.feed b 19 by rw [E0.out, if_pos (by rw [← HLE.out]; exact hl0)])
            clear hl0
            clear h hf
            go_enter Tryz.func140, Tryz.ntmps140
            go_wp2_with fail
            (with_reducible refine (HDG.out).mono ?_)
            rintro e w' ⟨rfl, h1, h2⟩
            go_wp2
            go_end0
            rw [E.out]
            exact ⟨rfl, h1, h2⟩
          }
          {
            have HDG := Lib.hid (cFeed_any hT c v b 16 w h)
            have t0 : (len == 0) = false := by simp [hl0]
            have E := Lib.hid (show c.content b = c.feed b 16 by rw [E0.out, if_neg (by rw [← HLE.out]; exact hl0)])
            clear hl0
            clear h hf
            go_enter Tryz.func140, Tryz.ntmps140
            go_wp2_with fail
            (with_reducible refine (HDG.out).mono ?_)
            rintro e w' ⟨rfl, h1, h2⟩
            go_wp2
            go_end0
            rw [E.out]
            exact ⟨rfl, h1, h2⟩
          }
        }
        {
          have t15 : (pl == 15) = false := by simp [p15]
          by_cases p17 : pl = 17
          {
            have t17 : (pl == 17) = true := by simp [p17]
            have HDG := Lib.hid (show Calls Tryz.prog 161 #[.pointer (some ⟨K, 0, none⟩), .int .u8 (b.toNat : Int), .string ⟨#[13]⟩, .int .i64 18] w (CrP T ex K base (c.fixed b ([13]) 18) w) from cFixed_any hT c v b ([13]) 18 w h (hf.f1 (.inl (by rw [← HPL.out]; exact p17))) (by decide))
            have E := Lib.hid (show c.content b = c.fixed b [13] 18 by unfold Cr.content; rw [if_neg (fun q => q.elim (fun q => p13 (by rw [HPL.out]; exact q)) (fun q => p16 (by rw [HPL.out]; exact q))), if_neg (by rw [← HPL.out]; exact p14), if_neg (by rw [← HPL.out]; exact p15), if_pos (by rw [← HPL.out]; exact p17)])
            clear h hf
            go_enter Tryz.func140, Tryz.ntmps140
            go_wp2_with fail
            (with_reducible refine (HDG.out).mono ?_)
            rintro e w' ⟨rfl, h1, h2⟩
            go_wp2
            go_end0
            rw [E.out]
            exact ⟨rfl, h1, h2⟩
          }
          {
            have t17 : (pl == 17) = false := by simp [p17]
            by_cases p18 : pl = 18
            {
              have t18 : (pl == 18) = true := by simp [p18]
              have HDG := Lib.hid (cFeed_any hT c v b 14 w h)
              have E := Lib.hid (show c.content b = c.feed b 14 by unfold Cr.content; rw [if_neg (fun q => q.elim (fun q => p13 (by rw [HPL.out]; exact q)) (fun q => p16 (by rw [HPL.out]; exact q))), if_neg (by rw [← HPL.out]; exact p14), if_neg (by rw [← HPL.out]; exact p15), if_neg (by rw [← HPL.out]; exact p17), if_pos (by rw [← HPL.out]; exact p18)])
              clear h hf
              go_enter Tryz.func140, Tryz.ntmps140
              go_wp2_with fail
              (with_reducible refine (HDG.out).mono ?_)
              rintro e w' ⟨rfl, h1, h2⟩
              go_wp2
              go_end0
              rw [E.out]
              exact ⟨rfl, h1, h2⟩
            }
            {
              have t18 : (pl == 18) = false := by simp [p18]
              by_cases p19 : pl = 19
              {
                have t19 : (pl == 19) = true := by simp [p19]
                have HDG := Lib.hid (show Calls Tryz.prog 161 #[.pointer (some ⟨K, 0, none⟩), .int .u8 (b.toNat : Int), .string ⟨#[13]⟩, .int .i64 20] w (CrP T ex K base (c.fixed b ([13]) 20) w) from cFixed_any hT c v b ([13]) 20 w h (hf.f1 (.inr (by rw [← HPL.out]; exact p19))) (by decide))
                have E := Lib.hid (show c.content b = c.fixed b [13] 20 by unfold Cr.content; rw [if_neg (fun q => q.elim (fun q => p13 (by rw [HPL.out]; exact q)) (fun q => p16 (by rw [HPL.out]; exact q))), if_neg (by rw [← HPL.out]; exact p14), if_neg (by rw [← HPL.out]; exact p15), if_neg (by rw [← HPL.out]; exact p17), if_neg (by rw [← HPL.out]; exact p18), if_pos (by rw [← HPL.out]; exact p19)])
                clear h hf
                go_enter Tryz.func140, Tryz.ntmps140
                go_wp2_with fail
                (with_reducible refine (HDG.out).mono ?_)
                rintro e w' ⟨rfl, h1, h2⟩
                go_wp2
                go_end0
                rw [E.out]
                exact ⟨rfl, h1, h2⟩
              }
              {
                have t19 : (pl == 19) = false := by simp [p19]
                obtain ⟨c2, hc2⟩ : ∃ x, x = c.feed b 20 := ⟨_, rfl⟩
                have HC2 := Lib.hid hc2
                have HDG := Lib.hid (cFeed_any hT c v b 20 w h)
                rw [← hc2] at HDG
                have E0 := Lib.hid (show c.content b = (if c2.no = 0 then c2.finish else c2) by unfold Cr.content; rw [if_neg (fun q => q.elim (fun q => p13 (by rw [HPL.out]; exact q)) (fun q => p16 (by rw [HPL.out]; exact q))), if_neg (by rw [← HPL.out]; exact p14), if_neg (by rw [← HPL.out]; exact p15), if_neg (by rw [← HPL.out]; exact p17), if_neg (by rw [← HPL.out]; exact p18), if_neg (by rw [← HPL.out]; exact p19), hc2])
                have HBG := Lib.hid (show c2.begun = true by rw [hc2, Cr.feed_begun]; exact hbg)
                have HDL := Lib.hid (show c2.done.length ≤ 1000000000 by rw [hc2, Cr.feed_done]; exact hf.dl)
                obtain ⟨z, hz⟩ : ∃ z, z = c2.no := ⟨_, rfl⟩
                have HZ := Lib.hid hz
                clear hc2 hz
                by_cases hz0 : z = 0
                {
                  have t0 : (z == 0) = true := by simp [hz0]
                  have E := Lib.hid (show c.content b = c2.finish by rw [E0.out, if_pos (by rw [← HZ.out]; exact hz0)])
                  clear hz0
                  clear h hf
                  go_enter Tryz.func140, Tryz.ntmps140
                  go_wp2_with fail
                  (with_reducible refine (HDG.out).mono ?_)
                  rintro e w2 ⟨rfl, ⟨v2, hr2⟩, hf2⟩
                  have q22 := hr2.cell 22 (u := .int .i64 c2.no) rfl
                  rw [← HZ.out] at q22
                  have HF2 := Lib.hid hf2
                  have HR2 := Lib.hid hr2
                  have HT2 := Lib.hid (cFinish_any hT c2 v2 w2 hr2 HBG.out HDL.out)
                  clear hr2 hf2
                  go_wp2_with fail
                  (with_reducible refine (HT2.out).mono ?_)
                  rintro e w' ⟨rfl, h1, h2⟩
                  go_wp2
                  go_end0
                  rw [E.out]
                  exact ⟨rfl, h1, HF2.out.trans h2⟩
                }
                {
                  have t0 : (z == 0) = false := by simp [hz0]
                  have E := Lib.hid (show c.content b = c2 by rw [E0.out, if_neg (by rw [← HZ.out]; exact hz0)])
                  clear hz0
                  clear h hf
                  go_enter Tryz.func140, Tryz.ntmps140
                  go_wp2_with fail
                  (with_reducible refine (HDG.out).mono ?_)
                  rintro e w2 ⟨rfl, ⟨v2, hr2⟩, hf2⟩
                  have q22 := hr2.cell 22 (u := .int .i64 c2.no) rfl
                  rw [← HZ.out] at q22
                  have HF2 := Lib.hid hf2
                  have HR2 := Lib.hid hr2
                  clear hr2 hf2
                  go_wp2
                  go_end0
                  rw [E.out]
                  exact ⟨rfl, ⟨_, HR2.out⟩, HF2.out⟩
                }
              }
            }
          }
        }
      }
    }
  }
end
end Go.Proofs.YthfloagpmmohkaaGreatDoor
