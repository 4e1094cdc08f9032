/- wire's reader of messages: a byte. Printed by wip/gen_core.py. -/
import Derived.Test.YthfloagpmmohkaaGreatDoorCoreH
import Derived.Test.YthfloagpmmohkaaGreatDoorCoreL
namespace Go.Proofs.YthfloagpmmohkaaGreatDoor
open Go Go.RowKit Go.Proofs

namespace Cr
variable {c : Cr} {b : UInt8}
theorem fail_pos (c : Cr) (a n : Int) : (c.fail a n).pos = c.pos := by unfold Cr.fail; split <;> rfl
theorem wrong_pos (c : Cr) : c.wrong.pos = c.pos := fail_pos _ _ _
theorem feed_pos (c : Cr) (b : UInt8) (n : Int) : (c.feed b n).pos = c.pos := by
  unfold Cr.feed
  split
  · exact wrong_pos c
  · rfl
theorem fixed_pos (c : Cr) (b : UInt8) (t : List UInt8) (n : Int) : (c.fixed b t n).pos = c.pos := by
  unfold Cr.fixed
  split
  · exact wrong_pos c
  split <;> rfl
theorem trail_pos (c : Cr) (b : UInt8) (g : Bool) : (c.trail b g).pos = c.pos := by
  unfold Cr.trail
  split
  · exact wrong_pos c
  split
  · rfl
  split
  · exact wrong_pos c
  split
  · exact fail_pos _ _ _
  · rfl
theorem digE_pos (c : Cr) (k : Int) : (c.digE k).pos = c.pos := by
  unfold Cr.digE
  split
  · exact fail_pos _ _ _
  · rfl
theorem digit_pos (c : Cr) (b : UInt8) : (c.digit b).pos = c.pos := by
  unfold Cr.digit
  split
  · exact trail_pos _ _ _
  split
  · exact wrong_pos c
  rw [digE_pos]
  show ((c.digA.digB b).digC).pos = c.pos
  rw [(Cr.digC_eqs _).2.2.1, (Cr.digB_eqs _ _).2.2.1, (Cr.digA_eqs c).2.1]
theorem chunked_pos (c : Cr) (b : UInt8) : (c.chunked b).pos = c.pos := by
  unfold Cr.chunked
  split
  · exact trail_pos _ _ _
  split
  · exact wrong_pos c
  · exact (Cr.digC_eqs _).2.2.1
theorem value_pos (c : Cr) (b : UInt8) : (c.value b).pos = c.pos := by
  unfold Cr.value
  split
  · exact digit_pos c b
  split
  · exact chunked_pos c b
  split
  · rfl
  split
  · exact wrong_pos c
  split
  · exact fail_pos _ _ _
  · rfl
theorem nmB_pos (c : Cr) : c.nmB.pos = c.pos := by
  unfold Cr.nmB
  split
  · exact fail_pos _ _ _
  · rfl
theorem nmD_pos (c : Cr) : c.nmD.pos = c.pos := by
  unfold Cr.nmD
  split
  · exact fail_pos _ _ _
  · rfl
theorem nmA_pos (c : Cr) : c.nmA.pos = c.pos := by
  unfold Cr.nmA
  split
  · split
    · exact fail_pos _ _ _
    · rfl
  · rfl
theorem named_pos (c : Cr) : c.named.pos = c.pos := by
  show (c.nmA.nmE c.nmK).pos = c.pos
  unfold Cr.nmE
  split
  · exact nmA_pos c
  · rw [nmD_pos]
    show c.nmA.nmB.pos = c.pos
    rw [nmB_pos, nmA_pos]
theorem name_pos (c : Cr) (b : UInt8) : (c.name b).pos = c.pos := by
  unfold Cr.name
  split
  · rfl
  split
  · exact named_pos c
  split
  · exact wrong_pos c
  · rfl
theorem headed_pos (c : Cr) : c.headed.pos = c.pos := by
  unfold Cr.headed
  split
  · rfl
  split <;> rfl
theorem head_pos (c : Cr) (b : UInt8) : (c.head b).pos = c.pos := by
  unfold Cr.head
  split
  · exact fixed_pos _ _ _ _
  split
  · unfold Cr.status
    split
    · simp only []
      split
      · exact fail_pos _ _ _
      · rfl
    split
    · rfl
    · exact wrong_pos c
  split
  · unfold Cr.reason
    split
    · rfl
    split
    · rfl
    · exact wrong_pos c
  split
  · unfold Cr.method
    split
    · rfl
    split
    · rfl
    · exact wrong_pos c
  split
  · unfold Cr.target
    split
    · rfl
    split
    · rfl
    · exact wrong_pos c
  split
  · exact fixed_pos _ _ _ _
  · exact feed_pos _ _ _
theorem pair_pos (c : Cr) (b : UInt8) : (c.pair b).pos = c.pos := by
  unfold Cr.pair
  split
  · exact name_pos _ _
  split
  · exact name_pos _ _
  split
  · split
    · exact value_pos _ _
    split
    · exact fail_pos _ _ _
    · rfl
  split
  · exact value_pos _ _
  split
  · exact feed_pos _ _ _
  · simp only []
    split
    · rw [headed_pos, feed_pos]
    · exact feed_pos _ _ _
theorem content_pos (c : Cr) (b : UInt8) : (c.content b).pos = c.pos := by
  unfold Cr.content
  split
  · unfold Cr.data
    simp only []
    split
    · rfl
    split <;> rfl
  split
  · unfold Cr.size
    split
    · rfl
    split
    · exact wrong_pos c
    · rw [digE_pos]
      exact (Cr.digA_eqs c).2.1
  split
  · exact feed_pos _ _ _
  split
  · exact fixed_pos _ _ _ _
  split
  · exact feed_pos _ _ _
  split
  · exact fixed_pos _ _ _ _
  · simp only []
    split
    · exact feed_pos _ _ _
    · exact feed_pos _ _ _
theorem step_pos (c : Cr) (b : UInt8) : (c.step b).pos = c.pos := by
  unfold Cr.step
  split
  · exact head_pos c b
  split
  · exact pair_pos c b
  · exact content_pos c b
end Cr
section
variable {T : TypeId} {ex : List Value} {K base : Nat}
theorem CrR.start (hT : TyOk T) {w : World} {c : Cr} {v : CrV} (h : CrR T ex w K base c v) (hb0 : v.vb = .slice none 0 0) (hh0 : v.vh = .slice none 0 0) (hbd : c.body = []) (hhd : c.m.head = []) :
    CrR T ex (w.setCell ⟨K, 3, none⟩ (.bool true)) K base { c with begun := true } v ∧ CrF K w (w.setCell ⟨K, 3, none⟩ (.bool true)) := by
  have hf : Fr (fun i => i = K) w (w.setCell ⟨K, 3, none⟩ (.bool true)) := (Fr.refl (fun i => i = K) w).setCell (p := ⟨K, 3, none⟩) (fun _ => rfl) _
  have hbox : (w.setCell ⟨K, 3, none⟩ (.bool true)).heap[K]? = some (.cells (crC { c with begun := true } v ++ ex).toArray T (0, 0)) := by
    simp only [World.setCell, Array.getElem?_modify, h.box, if_true, Option.map_some]
    congr 2
  have nK : ∀ {e : TypeId} {i : Nat} {c0 : Array Value} {fz : Nat × Nat}, w.heap[i]? = some (.cells c0 e fz) → e ≠ T → i ≠ K := fun h1 hne e0 => hne (ty_ne (by rw [← e0]; exact h1) h.box)
  have hr : CrR T ex (w.setCell ⟨K, 3, none⟩ (.bool true)) K base { c with begun := true } v := by
    refine ⟨h.kb, Nat.le_trans h.bw hf.size, hbox, ?_, fun _ => ?_, fun _ => ?_, ?_, h.msgs, fun x hx => ?_, fun _ i _ => by rw [hb0]; exact fun e => (by cases e), fun _ x _ _ b o _ => by rw [hh0]; exact fun e => (by cases e)⟩
    · exact ownsRow_fr h.word hf (fun i hi e => by obtain ⟨c0, h1⟩ := own_type h.word hi; exact nK h1 hT.u.symm e)
    · show World.ownsRow _ base 5 1 v.vb c.body.length (Lib.byteCells c.body)
      rw [hb0, hbd]
      exact ⟨rfl, .inl ⟨rfl, rfl⟩⟩
    · show World.ownsRow _ base 69 2 v.vh c.m.head.length (prC c.m.head)
      rw [hh0, hhd]
      exact ⟨rfl, .inl ⟨rfl, rfl⟩⟩
    · exact h.done.fr hf (fun i hi e => by obtain ⟨_, _, c0, h1⟩ := h.done.block hi; exact nK h1 hT.m.symm e)
    · exact (h.heads x hx).fr hf (fun b o c0 fz _ _ h1 => nK h1 hT.p.symm)
  refine ⟨hr, ⟨hf.mono (fun i _ e => .inl e), fun i _ ho => ?_⟩⟩
  rw [h.own_iff]
  exact hr.own_iff.1 ho
set_option maxHeartbeats 4000000 in
set_option maxRecDepth 100000 in
theorem cTake_any (hT : TyOk T) (c : Cr) (v : CrV) (b : UInt8) (w : World) (h : CrR T ex w K base c v) (hi : c.Inv) (hno : c.no = 0) (hpos : c.pos ≤ 4000000) :
    Calls Tryz.prog 105 #[.pointer (some ⟨K, 0, none⟩), .int .u8 (b.toNat : Int)] w (CrP T ex K base (c.take b) w) := by
  obtain ⟨ri, rb, rp, rd, rn⟩ := Cr.ready_in hi hno
  have hp0 := hi.pos
  have hft := ri.fit rp hi.pos hpos (by rw [rd]; exact hi.done)
  obtain ⟨q, hq⟩ : ∃ q, q = c.pos := ⟨_, rfl⟩
  have HQ := Lib.hid hq
  rw [← hq] at hp0 hpos rp
  have ET := Lib.hid (show c.take b = { (c.ready.step b) with pos := (c.ready.step b).pos + 1 } from Cr.take_eq)
  have k3 := h.cell 3 (u := .bool c.begun) rfl
  have hbw := h.bw
  have hKlt := h.lt
  obtain ⟨c1, hc1⟩ : ∃ x, x = c.ready := ⟨_, rfl⟩
  rw [← hc1] at rb rp rd rn hft ET
  have HBG := Lib.hid rb
  have HFT := Lib.hid hft
  have HPS := Lib.hid rp
  have HC1 := Lib.hid hc1
  obtain ⟨pl, hpl⟩ : ∃ z, z = c1.place := ⟨_, rfl⟩
  have HPL := Lib.hid hpl
  clear ri rb rp rd rn hft hpl hc1 hq hi hno
  cases hbg : c.begun with
  | true =>
    rw [hbg] at k3
    have e1 : c1 = c := by rw [HC1.out]; unfold Cr.ready; rw [if_pos hbg]
    have HR := Lib.hid (show CrR T ex w K base c1 v by rw [e1]; exact h)
    have k2 := HR.out.cell 2 (u := .int .i64 c1.place) rfl
    rw [← HPL.out] at k2
    clear h e1 hbg
    by_cases p6 : pl ≤ 6
    {
      have HDG := Lib.hid (cHead_any hT c1 v b w HR.out HFT.out)
      have E1 := Lib.hid (show c1.step b = c1.head b by unfold Cr.step; rw [if_pos (by rw [← HPL.out]; exact p6)])
      have d6 := decide_eq_true p6
      clear p6
      go_enter Tryz.func105, Tryz.ntmps105
      go_wp2_with fail
      (with_reducible refine (HDG.out).mono ?_)
      rintro e w2 ⟨rfl, ⟨v2, hr2⟩, hf2⟩
      have hps : (c1.head b).pos = q := by rw [← E1.out, Cr.step_pos]; exact HPS.out
      have q1 := hr2.cell 1 (u := .int .i64 (c1.head b).pos) rfl
      have y1 := hr2.frz 1
      have HP := Lib.hid (hr2.put hT (c' := { (c1.head b) with pos := q + 1 }) 1 (.int .i64 (q + 1)) rfl (by omega) rfl (fun hb => ⟨hb, rfl, rfl⟩) rfl)
      rw [hps] at q1
      have HF2 := Lib.hid hf2
      have HPQ := Lib.hid hps
      clear hr2 hf2 hps
      go_wp2
      go_end0
      rw [ET.out, E1.out, HPQ.out]
      exact ⟨rfl, ⟨_, HP.out.1⟩, (CrF.refl K w).trans (HF2.out.trans HP.out.2)⟩
    }
    {
      by_cases p12 : pl ≤ 12
      {
        have HDG := Lib.hid (cPair_any hT c1 v b w HR.out HBG.out HFT.out)
        have E1 := Lib.hid (show c1.step b = c1.pair b by unfold Cr.step; rw [if_neg (by rw [← HPL.out]; exact p6), if_pos (by rw [← HPL.out]; exact p12)])
        have d6 := decide_eq_false p6
        have d12 := decide_eq_true p12
        clear p6 p12
        go_enter Tryz.func105, Tryz.ntmps105
        go_wp2_with fail
        (with_reducible refine (HDG.out).mono ?_)
        rintro e w2 ⟨rfl, ⟨v2, hr2⟩, hf2⟩
        have hps : (c1.pair b).pos = q := by rw [← E1.out, Cr.step_pos]; exact HPS.out
        have q1 := hr2.cell 1 (u := .int .i64 (c1.pair b).pos) rfl
        have y1 := hr2.frz 1
        have HP := Lib.hid (hr2.put hT (c' := { (c1.pair b) with pos := q + 1 }) 1 (.int .i64 (q + 1)) rfl (by omega) rfl (fun hb => ⟨hb, rfl, rfl⟩) rfl)
        rw [hps] at q1
        have HF2 := Lib.hid hf2
        have HPQ := Lib.hid hps
        clear hr2 hf2 hps
        go_wp2
        go_end0
        rw [ET.out, E1.out, HPQ.out]
        exact ⟨rfl, ⟨_, HP.out.1⟩, (CrF.refl K w).trans (HF2.out.trans HP.out.2)⟩
      }
      {
        have HDG := Lib.hid (cContent_any hT c1 v b w HR.out HBG.out HFT.out)
        have E1 := Lib.hid (show c1.step b = c1.content b by unfold Cr.step; rw [if_neg (by rw [← HPL.out]; exact p6), if_neg (by rw [← HPL.out]; exact p12)])
        have d6 := decide_eq_false p6
        have d12 := decide_eq_false p12
        clear p6 p12
        go_enter Tryz.func105, Tryz.ntmps105
        go_wp2_with fail
        (with_reducible refine (HDG.out).mono ?_)
        rintro e w2 ⟨rfl, ⟨v2, hr2⟩, hf2⟩
        have hps : (c1.content b).pos = q := by rw [← E1.out, Cr.step_pos]; exact HPS.out
        have q1 := hr2.cell 1 (u := .int .i64 (c1.content b).pos) rfl
        have y1 := hr2.frz 1
        have HP := Lib.hid (hr2.put hT (c' := { (c1.content b) with pos := q + 1 }) 1 (.int .i64 (q + 1)) rfl (by omega) rfl (fun hb => ⟨hb, rfl, rfl⟩) rfl)
        rw [hps] at q1
        have HF2 := Lib.hid hf2
        have HPQ := Lib.hid hps
        clear hr2 hf2 hps
        go_wp2
        go_end0
        rw [ET.out, E1.out, HPQ.out]
        exact ⟨rfl, ⟨_, HP.out.1⟩, (CrF.refl K w).trans (HF2.out.trans HP.out.2)⟩
      }
    }
  | false =>
    rw [hbg] at k3
    have HBE := Lib.hid (cBegin_any hT c v w h)
    have e1 : c1 = { c.begin_ with begun := true } := by rw [HC1.out]; unfold Cr.ready; rw [if_neg (by rw [hbg]; simp)]
    have HE1 := Lib.hid e1
    clear h e1 hbg
    go_enter Tryz.func105, Tryz.ntmps105
    go_wp2_with fail
    (with_reducible refine (HBE.out).mono ?_)
    rintro e w1 ⟨rfl, ⟨v1, hr1, hvb, hvh⟩, hf1⟩
    have hst := hr1.start hT hvb hvh rfl rfl
    rw [← HE1.out] at hst
    have HR := Lib.hid hst.1
    have HFA := Lib.hid (hf1.trans hst.2)
    have q3 := hr1.cell 3 (u := .bool c.begin_.begun) rfl
    have y3 := hr1.frz 3
    have k2 := hr1.cell 2 (u := .int .i64 c.begin_.place) rfl
    have e2 : c.begin_.place = pl := by rw [HPL.out, HE1.out]
    rw [e2] at k2
    clear hr1 hf1 hst e2 hvb hvh k3
    by_cases p6 : pl ≤ 6
    {
      have HDG := Lib.hid (cHead_any hT c1 v1 b _ HR.out HFT.out)
      have E1 := Lib.hid (show c1.step b = c1.head b by unfold Cr.step; rw [if_pos (by rw [← HPL.out]; exact p6)])
      have d6 := decide_eq_true p6
      clear p6
      go_wp2_with fail
      (with_reducible refine (HDG.out).mono ?_)
      rintro e w2 ⟨rfl, ⟨v2, hr2⟩, hf2⟩
      have hps : (c1.head b).pos = q := by rw [← E1.out, Cr.step_pos]; exact HPS.out
      have q1 := hr2.cell 1 (u := .int .i64 (c1.head b).pos) rfl
      have y1 := hr2.frz 1
      have HP := Lib.hid (hr2.put hT (c' := { (c1.head b) with pos := q + 1 }) 1 (.int .i64 (q + 1)) rfl (by omega) rfl (fun hb => ⟨hb, rfl, rfl⟩) rfl)
      rw [hps] at q1
      have HF2 := Lib.hid hf2
      have HPQ := Lib.hid hps
      clear hr2 hf2 hps
      go_wp2
      go_end0
      rw [ET.out, E1.out, HPQ.out]
      exact ⟨rfl, ⟨_, HP.out.1⟩, (HFA.out).trans (HF2.out.trans HP.out.2)⟩
    }
    {
      by_cases p12 : pl ≤ 12
      {
        have HDG := Lib.hid (cPair_any hT c1 v1 b _ HR.out HBG.out HFT.out)
        have E1 := Lib.hid (show c1.step b = c1.pair b by unfold Cr.step; rw [if_neg (by rw [← HPL.out]; exact p6), if_pos (by rw [← HPL.out]; exact p12)])
        have d6 := decide_eq_false p6
        have d12 := decide_eq_true p12
        clear p6 p12
        go_wp2_with fail
        (with_reducible refine (HDG.out).mono ?_)
        rintro e w2 ⟨rfl, ⟨v2, hr2⟩, hf2⟩
        have hps : (c1.pair b).pos = q := by rw [← E1.out, Cr.step_pos]; exact HPS.out
        have q1 := hr2.cell 1 (u := .int .i64 (c1.pair b).pos) rfl
        have y1 := hr2.frz 1
        have HP := Lib.hid (hr2.put hT (c' := { (c1.pair b) with pos := q + 1 }) 1 (.int .i64 (q + 1)) rfl (by omega) rfl (fun hb => ⟨hb, rfl, rfl⟩) rfl)
        rw [hps] at q1
        have HF2 := Lib.hid hf2
        have HPQ := Lib.hid hps
        clear hr2 hf2 hps
        go_wp2
        go_end0
        rw [ET.out, E1.out, HPQ.out]
        exact ⟨rfl, ⟨_, HP.out.1⟩, (HFA.out).trans (HF2.out.trans HP.out.2)⟩
      }
      {
        have HDG := Lib.hid (cContent_any hT c1 v1 b _ HR.out HBG.out HFT.out)
        have E1 := Lib.hid (show c1.step b = c1.content b by unfold Cr.step; rw [if_neg (by rw [← HPL.out]; exact p6), if_neg (by rw [← HPL.out]; exact p12)])
        have d6 := decide_eq_false p6
        have d12 := decide_eq_false p12
        clear p6 p12
        go_wp2_with fail
        (with_reducible refine (HDG.out).mono ?_)
        rintro e w2 ⟨rfl, ⟨v2, hr2⟩, hf2⟩
        have hps : (c1.content b).pos = q := by rw [← E1.out, Cr.step_pos]; exact HPS.out
        have q1 := hr2.cell 1 (u := .int .i64 (c1.content b).pos) rfl
        have y1 := hr2.frz 1
        have HP := Lib.hid (hr2.put hT (c' := { (c1.content b) with pos := q + 1 }) 1 (.int .i64 (q + 1)) rfl (by omega) rfl (fun hb => ⟨hb, rfl, rfl⟩) rfl)
        rw [hps] at q1
        have HF2 := Lib.hid hf2
        have HPQ := Lib.hid hps
        clear hr2 hf2 hps
        go_wp2
        go_end0
        rw [ET.out, E1.out, HPQ.out]
        exact ⟨rfl, ⟨_, HP.out.1⟩, (HFA.out).trans (HF2.out.trans HP.out.2)⟩
      }
    }
end
end Go.Proofs.YthfloagpmmohkaaGreatDoor
