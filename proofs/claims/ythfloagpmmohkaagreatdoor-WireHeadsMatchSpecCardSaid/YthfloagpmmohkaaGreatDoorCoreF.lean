/- wire's reader of messages: a message is complete; a byte of a body. Printed by wip/gen_core.py. -/
import Derived.Test.YthfloagpmmohkaaGreatDoorCoreE
import Derived.Test.YthfloagpmmohkaaGreatDoorOffA
import Derived.Test.YthfloagpmmohkaaGreatDoorRegLast
namespace Go.Proofs.YthfloagpmmohkaaGreatDoor
open Go Go.RowKit Go.Proofs

theorem infoCM : (Tryz.prog.info? 38).map (fun i => (i.zero, i.size, i.bytes)) = some (some (.agg #[.bool false, .string ⟨#[]⟩, .string ⟨#[]⟩, .int .i64 0, .string ⟨#[]⟩, .slice none 0 0, .string ⟨#[]⟩]), 7, 104) := by kernel_rfl
set_option maxHeartbeats 4000000 in
set_option maxRecDepth 100000 in
theorem clipPr_any (A : Option Addr) (n c : Nat) (w : World) (hnc : n ≤ c) (hc : c ≤ maxLen) (hA : A = none → n = 0 ∧ c = 0) :
    Calls Tryz.prog 83 #[.slice A n c] w fun e w' => e = .returned (.slice A n n) ∧ w = w' := by
  unfold maxLen at hc
  rcases A with _ | a
  · obtain ⟨rfl, rfl⟩ := hA rfl
    go_enter Tryz.func83, Tryz.ntmps83
    go_wp2
    go_ret
    exact ⟨rfl, rfl⟩
  · go_enter Tryz.func83, Tryz.ntmps83
    go_wp2
    go_ret
    exact ⟨rfl, rfl⟩
section
variable {T : TypeId} {ex : List Value} {K base : Nat}
theorem boxL_set {w : World} {L : List Value} (hL : L.length = 23) (hb : w.heap[K]? = some (.cells (L ++ ex).toArray T (0, 0))) (j : Nat) (u : Value) (hj : j < 23) : (w.setCell ⟨K, j, none⟩ u).heap[K]? = some (.cells (L.set j u ++ ex).toArray T (0, 0)) := by
  simp only [World.setCell, Array.getElem?_modify, hb, if_true, Option.map_some]
  congr 2
  rw [List.setIfInBounds_toArray, List.set_append_left _ _ (by rw [hL]; exact hj)]
  rfl
theorem boxL_cell {w : World} {L : List Value} (hL : L.length = 23) (hb : w.heap[K]? = some (.cells (L ++ ex).toArray T (0, 0))) (j : Nat) {u : Value} (hj : L[j]? = some u) : w.cell? ⟨K, j, none⟩ = some u := by
  have hl : j < 23 := by have := (List.getElem?_eq_some_iff.1 hj).1; omega
  rw [cellsAt hb]
  simp only [List.getElem?_toArray]
  rw [List.getElem?_append_left (by rw [hL]; exact hl)]
  exact hj
set_option maxHeartbeats 4000000 in
set_option maxRecDepth 100000 in
theorem cFinish_any (hT : TyOk T) (c : Cr) (v : CrV) (w : World) (h : CrR T ex w K base c v) (hbg : c.begun = true) (hdl : c.done.length ≤ 1000000000) :
    Calls Tryz.prog 175 #[.pointer (some ⟨K, 0, none⟩)] w (CrP T ex K base c.finish w) := by
  obtain ⟨im, him, hmz0, hmz1, hmz2⟩ := info_parts infoCM
  obtain ⟨B, kb, hvb, _, hbm, _⟩ := ownsRow_shape (h.body hbg)
  obtain ⟨H, hk, hvh, hhc, hhm, hHA⟩ := ownsRow_shape (h.head hbg)
  obtain ⟨D, dk, hvd, hdc, hdm⟩ := h.done.shape
  have HOB := h.body hbg
  rw [hvb] at HOB
  have hcvb := conv_own HOB
  have hdl2 : v.l.length = c.done.length := by have := congrArg List.length h.msgs; simpa using this
  obtain ⟨nb, hnb⟩ : ∃ z, z = c.body.length := ⟨_, rfl⟩
  obtain ⟨hn, hhn⟩ : ∃ z, z = c.m.head.length := ⟨_, rfl⟩
  obtain ⟨dn, hdn⟩ : ∃ z, z = v.l.length := ⟨_, rfl⟩
  rw [← hnb] at hvb hcvb
  rw [← hhn] at hvh hhc hHA
  rw [← hdn] at hvd hdc hdl2
  have k19 := h.cell 19 (u := v.vb) rfl
  rw [hvb] at k19
  have k9 := h.cell 9 (u := v.vh) rfl
  rw [hvh] at k9
  have k10 : w.cell? ⟨K, 10, none⟩ = some (tx c.m.body) := h.cell 10 rfl
  have z10 := h.frz 10
  have z9 := h.frz 9
  have HCL := Lib.hid (fun W => clipPr_any H hn hk W hhc hhm hHA)
  have hb1 := boxL_set (crC_length c v) h.box 10 (tx c.body) (by omega)
  have hb2 := boxL_set (by simp [crC_length]) hb1 9 (.slice H hn hn) (by omega)
  obtain ⟨w2, hw2⟩ : ∃ W, W = (w.setCell ⟨K, 10, none⟩ (tx c.body)).setCell ⟨K, 9, none⟩ (.slice H hn hn) := ⟨_, rfl⟩
  rw [← hw2] at hb2
  have hf2 : Fr (fun i => i = K) w w2 := by rw [hw2]; exact ((Fr.refl (fun i => i = K) w).setCell (p := ⟨K, 10, none⟩) (fun _ => rfl) _).setCell (p := ⟨K, 9, none⟩) (fun _ => rfl) _
  obtain ⟨L2, hL2⟩ : ∃ L, L = ((crC c v).set 10 (tx c.body)).set 9 (.slice H hn hn) := ⟨_, rfl⟩
  rw [← hL2] at hb2
  have hLl : L2.length = 23 := by rw [hL2]; simp [crC_length]
  have hoff : OffR w2 base 38 7 v.vd dn (msgsC v.l) := by
    rw [hdn]
    exact h.done.fr hf2 (fun i hi e => by obtain ⟨_, _, c1, h1⟩ := h.done.block hi; exact hT.nK h h1 hT.m.symm e)
  have hsz2 := hf2.size
  have hKd : ¬ some K = v.vd.ownBlock := fun e => by obtain ⟨_, _, c1, h1⟩ := h.done.block e; exact hT.nK h h1 hT.m.symm rfl
  have HCS := Lib.hid (show ∀ X, Fr (fun i => some i = v.vd.ownBlock) w2 X → X.cell? ⟨K, 20, none⟩ = some (.slice D dn dk) ∧ X.cell? ⟨K, 4, none⟩ = some (.bool c.m.req) ∧ X.cell? ⟨K, 5, none⟩ = some (tx c.m.meth) ∧ X.cell? ⟨K, 6, none⟩ = some (tx c.m.targ) ∧ X.cell? ⟨K, 7, none⟩ = some (.int .i64 c.m.status) ∧ X.cell? ⟨K, 8, none⟩ = some (tx c.m.reason) ∧ X.cell? ⟨K, 9, none⟩ = some (.slice H hn hn) ∧ X.cell? ⟨K, 10, none⟩ = some (tx c.body) from fun X hX => by
    have e : ∀ j u, L2[j]? = some u → X.cell? ⟨K, j, none⟩ = some u := fun j u hu => by
      rw [hX.cell (p := ⟨K, j, none⟩) (heap_lt hb2) hKd]
      exact boxL_cell hLl hb2 j hu
    rw [← hvd]
    exact ⟨e 20 _ (by rw [hL2]; rfl), e 4 _ (by rw [hL2]; rfl), e 5 _ (by rw [hL2]; rfl), e 6 _ (by rw [hL2]; rfl), e 7 _ (by rw [hL2]; rfl), e 8 _ (by rw [hL2]; rfl), e 9 _ (by rw [hL2]; rfl), e 10 _ (by rw [hL2]; rfl)⟩)
  have HH := Lib.hid h
  have HB2 := Lib.hid hb2
  have HF2 := Lib.hid hf2
  have HL2 := Lib.hid hL2
  have HLL := Lib.hid hLl
  have HVB := Lib.hid hvb
  have HVH := Lib.hid hvh
  have HVD := Lib.hid hvd
  have HHN := Lib.hid hhn
  have HDN := Lib.hid hdn
  have HW2 := Lib.hid hw2
  have HOFF := Lib.hid hoff
  have hbw := h.bw
  have hdb : dn ≤ 1000000000 := by rw [hdl2]; exact hdl
  clear h hb1 hb2 hf2 hL2 hLl hvb hvh hvd hhn hdn hnb HOB hoff hdl2 hdl
  go_enter Tryz.func175, Tryz.ntmps175
  go_wp2_with fail
  (with_reducible refine (HCL.out _).mono ?_)
  rintro e wz ⟨rfl, rfl⟩
  go_upto_region 2 with fail
  rw [← hw2]
  clear hw2 k19 k9 k10 z10 z9 hcvb
  refine wp_region_last (init := #[_, _, _, _, _, _, _, _, _, _, _, _, _]) (last := _) rfl (by kernel_rfl) (by kernel_rfl) (by kernel_rfl) ?_
  show wpAny _ _ _ _ 13 (Array.replicate 13 false) _ _
  refine wpAny_of_held (S := (fun X => Fr (fun i => some i = v.vd.ownBlock) w2 X)) _ _ _ _ ?_
  have HS0 : Fr (fun i => some i = v.vd.ownBlock) w2 w2.drew := (Fr.refl _ w2).drew
  refine wpAnyH_take (i := 0) (v := ?_) rfl (by kernel_rfl) (by kernel_rfl) (by kernel_rfl) (fun _ _ _ h => h) (Or.inl ⟨by kernel_rfl, ?_⟩) HS0 ?_
  rotate_left
  · intro W hW; obtain ⟨hW0, hW1, hW2, hW3, hW4, hW5, hW6, hW7⟩ := HCS.out W hW; go_simp; try (with_reducible rfl)
  refine wpAnyH_take (i := 1) (v := ?_) rfl (by kernel_rfl) (by kernel_rfl) (by kernel_rfl) (fun _ _ _ h => h) (Or.inl ⟨by kernel_rfl, ?_⟩) HS0 ?_
  rotate_left
  · intro W hW; obtain ⟨hW0, hW1, hW2, hW3, hW4, hW5, hW6, hW7⟩ := HCS.out W hW; go_simp; try (with_reducible rfl)
  refine wpAnyH_take (i := 2) (v := ?_) rfl (by kernel_rfl) (by kernel_rfl) (by kernel_rfl) (fun _ _ _ h => h) (Or.inl ⟨by kernel_rfl, ?_⟩) HS0 ?_
  rotate_left
  · intro W hW; obtain ⟨hW0, hW1, hW2, hW3, hW4, hW5, hW6, hW7⟩ := HCS.out W hW; go_simp; try (with_reducible rfl)
  refine wpAnyH_take (i := 3) (v := ?_) rfl (by kernel_rfl) (by kernel_rfl) (by kernel_rfl) (fun _ _ _ h => h) (Or.inl ⟨by kernel_rfl, ?_⟩) HS0 ?_
  rotate_left
  · intro W hW; obtain ⟨hW0, hW1, hW2, hW3, hW4, hW5, hW6, hW7⟩ := HCS.out W hW; go_simp; try (with_reducible rfl)
  refine wpAnyH_take (i := 4) (v := ?_) rfl (by kernel_rfl) (by kernel_rfl) (by kernel_rfl) (fun _ _ _ h => h) (Or.inl ⟨by kernel_rfl, ?_⟩) HS0 ?_
  rotate_left
  · intro W hW; obtain ⟨hW0, hW1, hW2, hW3, hW4, hW5, hW6, hW7⟩ := HCS.out W hW; go_simp; try (with_reducible rfl)
  refine wpAnyH_take (i := 5) (v := ?_) rfl (by kernel_rfl) (by kernel_rfl) (by kernel_rfl) (fun _ _ _ h => h) (Or.inl ⟨by kernel_rfl, ?_⟩) HS0 ?_
  rotate_left
  · intro W hW; obtain ⟨hW0, hW1, hW2, hW3, hW4, hW5, hW6, hW7⟩ := HCS.out W hW; go_simp; try (with_reducible rfl)
  refine wpAnyH_take (i := 6) (v := ?_) rfl (by kernel_rfl) (by kernel_rfl) (by kernel_rfl) (fun _ _ _ h => h) (Or.inl ⟨by kernel_rfl, ?_⟩) HS0 ?_
  rotate_left
  · intro W hW; obtain ⟨hW0, hW1, hW2, hW3, hW4, hW5, hW6, hW7⟩ := HCS.out W hW; go_simp; try (with_reducible rfl)
  refine wpAnyH_take (i := 7) (v := ?_) rfl (by kernel_rfl) (by kernel_rfl) (by kernel_rfl) (fun _ _ _ h => h) (Or.inl ⟨by kernel_rfl, ?_⟩) HS0 ?_
  rotate_left
  · intro W hW; obtain ⟨hW0, hW1, hW2, hW3, hW4, hW5, hW6, hW7⟩ := HCS.out W hW; go_simp; try (with_reducible rfl)
  refine wpAnyH_take (i := 8) (v := ?_) rfl (by kernel_rfl) (by kernel_rfl) (by kernel_rfl) (fun _ _ _ h => h) (Or.inl ⟨by kernel_rfl, ?_⟩) HS0 ?_
  rotate_left
  · intro W hW; obtain ⟨hW0, hW1, hW2, hW3, hW4, hW5, hW6, hW7⟩ := HCS.out W hW; go_simp; try (with_reducible rfl)
  clear HS0
  obtain ⟨w3, hw3⟩ : ∃ W, W = (w2.alloc (.cells #[.bool c.m.req, tx c.m.meth, tx c.m.targ, .int .i64 c.m.status, tx c.m.reason, .slice H hn hn, tx c.body] 38)).drew := ⟨_, rfl⟩
  have hf3 : Fr (fun i => some i = v.vd.ownBlock) w2 w3 := by rw [hw3]; exact ((Fr.refl _ w2).alloc _).drew
  refine run_oneC (i := 9) (by kernel_rfl) rfl (by kernel_rfl) ?_
  intro KK hK
  go_simp
  rw [← hw3]
  refine hK.out _ _ hf3 ?_
  clear hK KK
  intro _
  refine run_oneC (i := 10) (by kernel_rfl) rfl (by kernel_rfl) ?_
  intro KK hK
  have hoff3 : OffR w3 base 38 7 (.slice D dn dk) dn (msgsC v.l) := by
    rw [← HVD.out, hw3]
    exact (HOFF.out.fr ((Fr.refl (fun _ => False) w2).alloc _) (fun _ _ h => h)).fr (Fr.drew (Fr.refl (fun _ => False) _)) (fun _ _ h => h)
  have hnw := World.news_of_block (w := w3) (B := w2.heap.size) (cs := #[.bool c.m.req, tx c.m.meth, tx c.m.targ, .int .i64 c.m.status, tx c.m.reason, .slice H hn hn, tx c.body]) (t := 38) (fr := (0, 0)) (by rw [hw3]; exact heap_alloc_new w2 _)
  refine wp_append_off (.tmp 25) (.tmp 30) 43 (by rfl) base 38 im _ 7 104 Tryz.underlying43 him hmz0 hmz1 hmz2 rfl (.slice D dn dk) dn (msgsC v.l) (by rfl) hoff3 ⟨w2.heap.size, 0, none⟩ 1 1 _ (by rfl) (by rfl) hnw (by simp [Value.oneCell']) (by decide) (by unfold maxLen; omega) (by omega) (by have := hf3.size; omega) ?_
  intro g4 o4 cap4 w4 hown4 hgr4 hat4 hlt4
  have hf4 : Fr (fun i => some i = v.vd.ownBlock) w2 w4 := hf3.trans (Fr.of_grown hgr4) (fun i _ e => by rw [HVD.out]; exact e)
  refine hK.out _ _ hf4 ?_
  clear hK KK
  intro HS0
  refine wpAnyH_take (i := 11) (v := ?_) rfl (by kernel_rfl) (by kernel_rfl) (by kernel_rfl) (fun _ _ _ h => h) (Or.inl ⟨by kernel_rfl, ?_⟩) HS0 ?_
  rotate_left
  · intro W hW; obtain ⟨hW0, hW1, hW2, hW3, hW4, hW5, hW6, hW7⟩ := HCS.out W hW; go_simp; try (with_reducible rfl)
  refine wpAnyH_take (i := 12) (v := ?_) rfl (by kernel_rfl) (by kernel_rfl) (by kernel_rfl) (fun _ _ _ h => h) (Or.inl ⟨by kernel_rfl, ?_⟩) HS0 ?_
  rotate_left
  · intro W hW; obtain ⟨hW0, hW1, hW2, hW3, hW4, hW5, hW6, hW7⟩ := HCS.out W hW; go_simp; try (with_reducible rfl)
  refine wpAnyH_done (by kernel_rfl) ?_ _
  have hb4 : w4.heap[K]? = some (.cells (L2 ++ ex).toArray T (0, 0)) := (hf4.block K (heap_lt HB2.out) hKd).trans HB2.out
  have r20 : w4.cell? ⟨K, 20, none⟩ = some (.slice D dn dk) := (HCS.out w4 hf4).1
  have y20 : w4.frozen? ⟨K, 20, none⟩ = false := frozenAt hb4 20
  have r3 : w4.cell? ⟨K, 3, none⟩ = some (.bool c.begun) := boxL_cell HLL.out hb4 3 (by rw [HL2.out]; rfl)
  have y3 : w4.frozen? ⟨K, 3, none⟩ = false := frozenAt hb4 3
  have hb5 := boxL_set HLL.out hb4 20 (.slice (some ⟨g4, o4, none⟩) (dn + 1) cap4) (by omega)
  have hb6 := boxL_set (by rw [List.length_set]; exact HLL.out) hb5 3 (.bool false) (by omega)
  obtain ⟨wf, hwf⟩ : ∃ W, W = (w4.setCell ⟨K, 20, none⟩ (.slice (some ⟨g4, o4, none⟩) (dn + 1) cap4)).setCell ⟨K, 3, none⟩ (.bool false) := ⟨_, rfl⟩
  rw [← hwf] at hb6
  have hf46 : Fr (fun i => i = K) w4 wf := by rw [hwf]; exact ((Fr.refl (fun i => i = K) w4).setCell (p := ⟨K, 20, none⟩) (fun _ => rfl) _).setCell (p := ⟨K, 3, none⟩) (fun _ => rfl) _
  have hfw : Fr (fun i => i = K ∨ some i = v.vd.ownBlock) w wf := ((HF2.out.mono (fun i _ e => .inl e)).trans hf4 (fun i _ e => .inr e)).trans hf46 (fun i _ e => .inl e)
  have hdn : OffR wf base 38 7 (.slice (some ⟨g4, o4, none⟩) (dn + 1) cap4) (v.l.length + 1) (msgsC v.l ++ msgV { c.m with body := c.body } (.slice H c.m.head.length hn)) := by
    rw [← HDN.out, ← HHN.out]
    exact hown4.fr hf46 (fun i hi e => by obtain ⟨_, _, c1, h1⟩ := hown4.block hi; rw [e, hb4] at h1; simp only [Option.some.injEq, Obj.cells.injEq] at h1; exact hT.m h1.2.1)
  have HR := Lib.hid (HH.out.fin hT hbg (W := wf) hfw (by rw [← HHN.out]; exact HVH.out) (by rw [← HHN.out, hb6, HL2.out]; rfl) hdn (by
    rcases hat4 with e | e
    · left
      rw [HVD.out, e]; rfl
    · right
      intro q hq
      have hq : q = g4 := Option.some.inj hq
      have := HF2.out.size
      have := hf3.size
      have := (show w2.heap.size < w3.heap.size by rw [hw3]; simp)
      omega))
  have HWF := Lib.hid hwf
  clear hb4 hb5 hb6 hf46 hfw hdn hwf hown4 hgr4 hat4 hlt4 hf4 hf3 hw3 hoff3 hnw HS0
  show Oper.wp _ _ _ _ _ _
  go_simp
  go_wp2
  go_end0
  rw [← HWF.out]
  exact ⟨rfl, ⟨_, HR.out.1⟩, HR.out.2⟩
end
end Go.Proofs.YthfloagpmmohkaaGreatDoor
