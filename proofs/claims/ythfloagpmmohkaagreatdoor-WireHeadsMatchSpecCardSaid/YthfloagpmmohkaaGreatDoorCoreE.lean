/- wire's reader of messages: the word chunked. Printed by wip/gen_core.py. -/
import Derived.Test.YthfloagpmmohkaaGreatDoorCoreD
import Derived.Test.YthfloagpmmohkaaGreatDoorWSml
import Derived.Deep.RegionHeld3
namespace Go.Proofs.YthfloagpmmohkaaGreatDoor
open Go Go.RowKit Go.Proofs

section
variable {P : Program} {Q : Exit → Act → World → Prop} {md : Region.Mode} {ops : Array Oper} {S : World → Prop}
theorem run_oneC {i : Nat} {o : Oper} {fuel : Nat} {listed : Array Bool} {a : Act} {w : World} (hr : Region.ready md ops listed = [i]) (ho : ops[i]? = some o) (hg : Region.wanted o (yielded ops a.tmps) = true)
    (h : ∀ K : Act → World → Prop, Hid (∀ a' w', S w' → (S w' → wpAnyH P md ops Q S fuel (listed.setIfInBounds i true) a' w') → K a' w') → o.wp P a w K Q) : wpAnyH P md ops Q S (fuel + 1) listed a w := by
  refine wpAnyH_all (rs := [i]) hr (by simp) fun j hj => ?_
  obtain rfl : j = i := by simpa using hj
  unfold wpOp
  rw [ho]
  simp only [hg, if_true]
  exact .inl (h _ (fun a' w' h1 h2 => ⟨h1, h2 h1⟩))
end
section
variable {T : TypeId} {ex : List Value} {K base : Nat}
theorem chnk_at : ∀ (n : Nat) (x : UInt8), Cr.chnkd[n]? = some x → (⟨#[99, 104, 117, 110, 107, 101, 100]⟩ : ByteArray).extract n (n + 1) = ⟨#[x]⟩
  | 0, x, h => by cases h; rfl
  | 1, x, h => by cases h; rfl
  | 2, x, h => by cases h; rfl
  | 3, x, h => by cases h; rfl
  | 4, x, h => by cases h; rfl
  | 5, x, h => by cases h; rfl
  | 6, x, h => by cases h; rfl
  | n + 7, x, h => by simp [Cr.chnkd] at h
theorem CrR.old {w w' : World} {c : Cr} {v : CrV} (h : CrR T ex w K base c v) (hb : Below w.heap.size w w') : CrR T ex w' K base c v ∧ CrF K w w' := by
  have hf : Fr (fun _ => False) w w' := (Fr.of_below hb).mono (fun i hi h => absurd h (by omega))
  have hr : CrR T ex w' K base c v := by
    refine ⟨h.kb, Nat.le_trans h.bw hf.size, (hf.block K h.lt (fun h => h)).trans h.box, ownsRow_fr h.word hf (fun _ _ h => h), fun hb => ownsRow_fr (h.body hb) hf (fun _ _ h => h), fun hb => ownsRow_fr (h.head hb) hf (fun _ _ h => h), h.done.fr hf (fun _ _ h => h), h.msgs, fun x hx => (h.heads x hx).fr hf (fun _ _ _ _ _ _ _ h => h), h.s1, h.s2⟩
  refine ⟨hr, ⟨hf.mono (fun i _ h => h.elim), fun i hi ho => ?_⟩⟩
  rw [h.own_iff]
  exact hr.own_iff.1 ho
set_option maxHeartbeats 4000000 in
set_option maxRecDepth 100000 in
theorem cChunked_any (hT : TyOk T) (c : Cr) (v : CrV) (b : UInt8) (w : World) (h : CrR T ex w K base c v) (hl : c.word.length ≤ 7) (hp : -4000000000 ≤ c.pos ∧ c.pos ≤ 4000000000) (hli : -4000000000 ≤ c.line ∧ c.line ≤ 4000000000) :
    Calls Tryz.prog 191 #[.pointer (some ⟨K, 0, none⟩), .int .u8 (b.toNat : Int)] w (CrP T ex K base (c.chunked b) w) := by
  obtain ⟨i0, hi, hz0, hz1, hz2⟩ := info_parts infoCU
  obtain ⟨A, k, hvw, hnc, hcm, hA⟩ := ownsRow_shape h.word
  have k11 := h.cell 11 (u := v.vw) rfl
  rw [hvw] at k11
  have HH := Lib.hid h
  have HO := h.word
  rw [hvw] at HO
  have hcvw := conv_own HO
  obtain ⟨n, hn⟩ : ∃ n, n = c.word.length := ⟨_, rfl⟩
  rw [← hn] at hvw hnc HO hcvw k11
  have HN := Lib.hid hn
  have HV := Lib.hid hvw
  have HO := Lib.hid HO
  have HWR := Lib.hid (cWrong_any hT c v w h)
  have hbw := h.bw
  have hKlt := h.lt
  unfold maxLen at hcm
  rw [← hn] at hl
  have k1 := h.cell 1 (u := .int .i64 c.pos) rfl
  have HTR := Lib.hid (fun g => cTrail_any hT c v b g w h hp hli)
  clear h hvw hn
  by_cases h7 : n = 7
  {
    have E := Lib.hid (show c.chunked b = c.trail b true by unfold Cr.chunked; rw [if_pos (by rw [← HN.out]; exact h7)])
    have t7 : ((n : Int) == 7) = true := by simp; omega
    have HG := Lib.hid (HTR.out true)
    clear h7
    go_enter Tryz.func191, Tryz.ntmps191
    go_wp2_with fail
    (with_reducible refine (HG.out).mono ?_)
    rintro e w' ⟨rfl, h1, h2⟩
    go_wp2
    go_end0
    rw [E.out]
    exact ⟨rfl, h1, h2⟩
  }
  {
    have t7 : ((n : Int) == 7) = false := by simp; omega
    have h6 : n < 7 := by omega
    obtain ⟨x, hx⟩ : ∃ x, Cr.chnkd[n]? = some x := ⟨_, List.getElem?_eq_getElem (show n < Cr.chnkd.length from h6)⟩
    have HX := Lib.hid hx
    have H7 := Lib.hid h7
    have HWR1 := Lib.hid (show IntKind.i64.wrap ((n : Int) + 1) = (n : Int) + 1 from IntWalk.i64_in _ (by omega))
    have HEX := Lib.hid (chnk_at n x hx)
    have HB1 := Lib.hid (show Below w.heap.size w (w.alloc (.cells #[.int .u8 (b.toNat : Int)] 5)).drew from ((Below.refl _ w).alloc (Nat.le_refl _) _).drew)
    have hcv1 : (convert 27 9 (.slice (some ⟨w.heap.size, 0, none⟩) 1 1)).run Tryz.prog (w.alloc (.cells #[.int .u8 (b.toNat : Int)] 5)).drew = .ok (tx [b]) (w.alloc (.cells #[.int .u8 (b.toNat : Int)] 5)).drew := run_convert_bytes_back (P := Tryz.prog) (w.alloc (.cells #[.int .u8 (b.toNat : Int)] 5)).drew 27 9 5 ⟨w.heap.size, 0, none⟩ 1 [b] Tryz.underlying27 Tryz.underlying5 Tryz.underlying9 (fun j hj => by
      obtain rfl : j = 0 := by simpa using hj
      exact cell_one_new w (.int .u8 (b.toNat : Int)) 5 0 _ rfl)
    have HSM := Lib.hid (small_any [b] (w.alloc (.cells #[.int .u8 (b.toNat : Int)] 5)).drew (by simp))
    clear h7 hx
    go_enter Tryz.func191, Tryz.ntmps191
    go_upto_region 3 with fail
    refine wp_region_noPanic ?_
    refine wp_region_held_drew (S := (fun X => Below w.heap.size w X)) (by kernel_rfl) (Below.refl _ w).drew (fun HS0 => ?_)
    refine wpAnyH_take (i := 0) (v := ?_) rfl (by kernel_rfl) (by kernel_rfl) (by kernel_rfl) (fun _ _ _ h => h) (Or.inl ⟨by kernel_rfl, ?_⟩) HS0 ?_
    rotate_left
    · intro W hW; go_simp; try (with_reducible rfl)
    refine wpAnyH_take (i := 4) (v := ?_) rfl (by kernel_rfl) (by kernel_rfl) (by kernel_rfl) (fun _ _ _ h => h) (Or.inl ⟨by kernel_rfl, ?_⟩) HS0 ?_
    rotate_left
    · intro W hW; go_simp; try (with_reducible rfl)
    refine wpAnyH_take (i := 5) (v := ?_) rfl (by kernel_rfl) (by kernel_rfl) (by kernel_rfl) (fun _ _ _ h => h) (Or.inl ⟨by kernel_rfl, ?_⟩) HS0 ?_
    rotate_left
    · intro W hW; go_simp; try (with_reducible rfl)
    refine wpAnyH_take (i := 6) (v := ?_) rfl (by kernel_rfl) (by kernel_rfl) (by kernel_rfl) (fun _ _ _ h => h) (Or.inl ⟨by kernel_rfl, ?_⟩) HS0 ?_
    rotate_left
    · intro W hW; go_simp; try (with_reducible rfl)
    refine wpAnyH_take (i := 7) (v := tx [x]) rfl (by kernel_rfl) (by kernel_rfl) (by kernel_rfl) (fun _ _ _ h => h) (Or.inl ⟨by kernel_rfl, ?_⟩) HS0 ?_
    · intro W hW
      go_simp
      rw [HWR1.out, if_pos ⟨by omega, by omega⟩, if_pos (by omega), show ((n : Int) + 1).toNat = n + 1 by omega, HEX.out]
    clear HS0
    refine run_oneC (i := 1) (by kernel_rfl) rfl (by kernel_rfl) ?_
    intro KK hK
    go_simp
    refine hK.out _ _ (HB1.out) ?_
    clear hK KK
    intro _
    refine run_oneC (i := 2) (by kernel_rfl) rfl (by kernel_rfl) ?_
    intro KK hK
    go_simp
    refine hK.out _ _ (HB1.out) ?_
    clear hK KK
    intro _
    refine run_oneC (i := 3) (by kernel_rfl) rfl (by kernel_rfl) ?_
    intro KK hK
    go_simp
    (with_reducible refine HSM.out.mono ?_)
    rintro e w4 ⟨rfl, hb4⟩
    have hb14 : Below w.heap.size w w4 := HB1.out.trans (hb4.mono HB1.out.size)
    refine hK.out _ _ hb14 ?_
    clear hK KK
    intro HS0
    refine wpAnyH_take (i := 8) (v := ?_) rfl (by kernel_rfl) (by kernel_rfl) (by kernel_rfl) (fun _ _ _ h => h) (Or.inl ⟨by kernel_rfl, ?_⟩) HS0 ?_
    rotate_left
    · intro W hW; go_simp; try (with_reducible rfl)
    refine wpAnyH_done (by kernel_rfl) ?_ _
    refine NoPanic.normal ?_
    (try go_simp)
    obtain ⟨hr4, hf4⟩ := HH.out.old hb14
    have HR4 := Lib.hid hr4
    have HF4 := Lib.hid hf4
    clear hr4 hf4 hb4 hb14 HS0 hcv1 HSM HB1 HWR1 HEX
    cases hq : (Cr.sml [b] == [x]) with
    | true =>
      have hee : ¬ Cr.chnkd[c.word.length]? ≠ (Cr.sml [b])[0]? := by
        rw [← HN.out, HX.out]
        intro e
        have h9 : Cr.sml [b] = [x] := by simpa using hq
        exact e (by rw [h9]; rfl)
      obtain ⟨cC, hcC⟩ : ∃ x, x = c.digC := ⟨_, rfl⟩
      have E := Lib.hid (show c.chunked b = { cC with word := c.word ++ [b] } by unfold Cr.chunked; rw [if_neg (by rw [← HN.out]; exact H7.out), if_neg hee, hcC])
      have HCC := Lib.hid hcC
      have HWC := Lib.hid (show cC.word = c.word by rw [hcC]; exact c.digC_eqs.1)
      have HFU := Lib.hid (cFull_any c v w4 HR4.out hp hli)
      obtain ⟨tf, htf⟩ : ∃ t, t = c.full := ⟨_, rfl⟩
      rw [← htf] at HFU
      have HTF := Lib.hid htf
      clear htf hcC hee hq
      go_upto_if 27 with (with_reducible refine (HFU.out).mono ?_; rintro e w5 ⟨rfl, hr5, hf5⟩)
      have HR5 := Lib.hid hr5
      have HF5 := Lib.hid (HF4.out.trans hf5)
      clear hr5 hf5 HFU
      go_cut [] (fun wx => ∃ v', CrR T ex wx K base cC v' ∧ CrF K w wx)
      case first =>
        cases hb : tf with
        | true =>
          have q1 : w5.cell? ⟨K, 1, none⟩ = some (.int .i64 c.pos) := HR5.out.cell 1 rfl
          have e0 : cC = c.fail c.pos 3 := by rw [HCC.out]; unfold Cr.digC; rw [← HTF.out, hb, if_pos rfl]
          have HF := Lib.hid (cFail_any hT c v c.pos 3 w5 HR5.out)
          rw [← e0] at HF
          clear e0
          go_wp2_with fail
          (with_reducible refine (HF.out).mono ?_)
          rintro e w' ⟨rfl, h1, h2⟩
          go_wp2_with fail
          go_meet
          obtain ⟨v1, h1⟩ := h1
          exact ⟨v1, h1, HF5.out.trans h2⟩
        | false =>
          have e0 : cC = c := by rw [HCC.out]; unfold Cr.digC; rw [← HTF.out, hb, if_neg (by simp)]
          go_wp2_with fail
          go_meet
          rw [e0]
          exact ⟨v, HR5.out, HF5.out⟩
      case rest =>
        obtain ⟨vC, hrC, hfC⟩ := hcut
        have hnC : n = cC.word.length := by rw [HWC.out, HN.out]
        obtain ⟨A2, k2, hvC, hnc2, hcm2, hA2⟩ := ownsRow_shape hrC.word
        rw [← hnC] at hvC
        have q11 := hrC.cell 11 (u := vC.vw) rfl
        rw [hvC] at q11
        have HOw := hrC.word
        rw [← hnC, hvC] at HOw
        have HOw := Lib.hid HOw
        have HHw := Lib.hid hrC
        have HVw := Lib.hid hvC
        have HNC := Lib.hid hnC
        have HFC := Lib.hid hfC
        have hKlt2 := hrC.lt
        have hbw2 := hrC.bw
        unfold maxLen at hcm2
        clear hrC hvC hnC hfC HO
        go_wp2_with (at_builtin; go_loud (refine wpList_append_lies _ rfl _ _ 27 rfl base 5 i0 (.int .u8 0) 1 1 Tryz.underlying27 hi hz0 hz1 hz2 rfl (by decide) (.slice A2 n k2) n (Lib.byteCells cC.word) rfl (HOw.out.alloc _) ⟨wc.heap.size, 0, none⟩ 1 1 [.int .u8 (b.toNat : Int)] rfl rfl ?c0 (by simp [Value.oneCell']) (by decide) ?c3 ?c4 ?c5 (wc.heap.size + 1) (by simp) ?_))
        case c0 => have := cell_one_new wc (.int .u8 (b.toNat : Int)) 5; simpa using this
        case c3 => unfold maxLen; omega
        case c4 => omega
        case c5 => have := HHw.out.bw; simp; omega
        intro gw capw waw how hgw hatw hltw
        obtain ⟨hbw, hfw⟩ := HHw.out.boxW hT (by rw [HVw.out]; exact hgw)
        have qww : waw.cell? ⟨K, 11, none⟩ = some (.slice A2 n k2) := (box_cell hbw 11 (u := vC.vw) rfl).trans (by rw [HVw.out])
        have yww : waw.frozen? ⟨K, 11, none⟩ = false := frozenAt hbw 11
        have HPw := Lib.hid (HHw.out.putW hT (u := .slice (some ⟨gw, 0, none⟩) (n + 1) capw) hfw (cC.word ++ [b]) (by rw [List.length_append, byteCells_snoc, ← HNC.out]; exact how) (by rw [HVw.out]; exact hatw.elim (fun e => .inl e.symm) (fun e => .inr (fun q hq => by have hq : q = gw := Option.some.inj hq; omega))))
        clear how hgw hatw hbw hfw hltw HOw
        go_wp2
        go_end0
        rw [E.out, ← HWC.out]
        exact ⟨rfl, ⟨_, HPw.out.1⟩, HFC.out.trans HPw.out.2⟩
    | false =>
      have hne : Cr.chnkd[c.word.length]? ≠ (Cr.sml [b])[0]? := by
        rw [← HN.out, HX.out]
        intro e
        have e : some x = some (lowB b) := e
        have : Cr.sml [b] = [x] := by rw [Option.some.inj e]; rfl
        rw [this] at hq
        simp at hq
      have E := Lib.hid (show c.chunked b = c.wrong by unfold Cr.chunked; rw [if_neg (by rw [← HN.out]; exact H7.out), if_pos hne])
      have HW4 := Lib.hid (cWrong_any hT c v w4 HR4.out)
      clear hne hq
      go_wp2_with fail
      (with_reducible refine (HW4.out).mono ?_)
      rintro e w' ⟨rfl, h1, h2⟩
      go_wp2
      go_end0
      rw [E.out]
      exact ⟨rfl, h1, HF4.out.trans h2⟩
  }
end
end Go.Proofs.YthfloagpmmohkaaGreatDoor
