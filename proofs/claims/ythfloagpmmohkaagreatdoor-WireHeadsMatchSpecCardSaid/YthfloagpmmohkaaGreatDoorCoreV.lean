/- wire's reader of messages: a byte of a value. Printed by wip/gen_core.py. -/
import Derived.Test.YthfloagpmmohkaaGreatDoorCoreN
import Derived.Test.YthfloagpmmohkaaGreatDoorRegLast
import Derived.Shelf.Strings.SlTrimAscii
namespace Go.Proofs.YthfloagpmmohkaaGreatDoor
open Go Go.RowKit Go.Proofs

theorem trimR_any (l : List UInt8) (w : World) (hl : l.length ≤ 9223372036854775807) : Calls Tryz.prog 192 #[tx l, .string ⟨#[32, 9]⟩] w fun e w' => e = .returned (tx (Cr.dropEnd Cr.isBlk l)) ∧ Below w.heap.size w w' := by
  have h := Any.strings_TrimRight_laid Tryz.lays162 (by kernel_rfl) ⟨l.toArray⟩ ⟨#[32, 9]⟩ w hl (by decide) (ascii_of_all (by decide))
  have e : Lib.trimRightS l [32, 9] = Cr.dropEnd Cr.isBlk l := by
    unfold Lib.trimRightS Cr.dropEnd
    congr 2
    funext b
    unfold Cr.isBlk
    refine Bool.eq_iff_iff.2 ?_
    simp only [List.contains_cons, List.contains_nil, Bool.or_false, Bool.or_eq_true, beq_iff_eq, decide_eq_true_eq]
    constructor
    · rintro (h | h) <;> simp [h]
    · rintro (h | h)
      · exact .inl (UInt8.toNat_inj.1 h)
      · exact .inr (UInt8.toNat_inj.1 h)
  rw [← e]
  exact h
section
variable {T : TypeId} {ex : List Value} {K base : Nat}
theorem CrR.valH (hT : TyOk T) {w : World} {c : Cr} {v : CrV} (h : CrR T ex w K base c v) (hbg : c.begun = true) {g hk : Nat} {hd : List Pr} {p : Pr} (hhd : c.m.head = hd ++ [p]) (hvh : v.vh = .slice (some ⟨g, 0, none⟩) (hd.length + 1) hk) (y : List UInt8) :
    CrR T ex (w.setCell ⟨g, hd.length * 2 + 1, none⟩ (tx y)) K base { c with m := { c.m with head := hd ++ [(p.1, y)] } } v ∧ CrF K w (w.setCell ⟨g, hd.length * 2 + 1, none⟩ (tx y)) := by
  have hf : Fr (fun i => i = g) w (w.setCell ⟨g, hd.length * 2 + 1, none⟩ (tx y)) := (Fr.refl (fun i => i = g) w).setCell (p := ⟨g, hd.length * 2 + 1, none⟩) (fun _ => rfl) _
  have hob : some g = v.vh.ownBlock := by rw [hvh]; rfl
  obtain ⟨cg, hg⟩ := own_type (h.head hbg) hob
  have nt : ∀ {e : TypeId} {i : Nat} {c0 : Array Value} {fz : Nat × Nat}, w.heap[i]? = some (.cells c0 e fz) → e ≠ 69 → ¬ i = g := fun h1 he e0 => by
    rw [e0] at h1
    exact he (ty_ne h1 hg)
  have hKg : ¬ K = g := nt h.box hT.p
  have hbox := (hf.block K h.lt hKg).trans h.box
  have hr : CrR T ex (w.setCell ⟨g, hd.length * 2 + 1, none⟩ (tx y)) K base { c with m := { c.m with head := hd ++ [(p.1, y)] } } v := by
    refine ⟨h.kb, Nat.le_trans h.bw hf.size, hbox, ?_, fun hb => ?_, fun hb => ?_, ?_, h.msgs, fun x hx => ?_, h.s1, h.s2⟩
    · exact ownsRow_fr h.word hf (fun i hi => by obtain ⟨c0, h1⟩ := own_type h.word hi; exact nt h1 ty_up)
    · exact ownsRow_fr (h.body hb) hf (fun i hi => by obtain ⟨c0, h1⟩ := own_type (h.body hb) hi; exact nt h1 ty_up)
    · have ho := h.head hb
      rw [hhd, hvh] at ho
      rw [hvh]
      have e1 : (hd ++ [(p.1, y)]).length = (hd ++ [p]).length := by simp
      have e2 : prC (hd ++ [(p.1, y)]) = (prC (hd ++ [p])).set (hd.length * 2 + 1) (tx y) := by
        rw [prC_append, prC_append, List.set_append_right _ _ (by rw [prC_length]; omega), prC_length, show hd.length * 2 + 1 - hd.length * 2 = 1 by omega]
        rfl
      show World.ownsRow _ base 69 2 _ (hd ++ [(p.1, y)]).length (prC (hd ++ [(p.1, y)]))
      rw [e1, e2]
      rcases ho.2 with ⟨hv, h0⟩ | ⟨g', cap, cur, hv, hb0, hh, h1, h2, h3, h4⟩
      · simp at h0
      · simp only [Value.slice.injEq, Option.some.injEq, Addr.mk.injEq] at hv
        obtain ⟨⟨rfl, _⟩, e3, rfl⟩ := hv
        refine ⟨by rw [List.length_set]; exact ho.1, .inr ⟨g, hk, cur.setIfInBounds (hd.length * 2 + 1) (tx y), by rw [e3], hb0, ?_, h1, h2, by simpa using h3, ?_⟩⟩
        · simp [World.setCell, Array.getElem?_modify, hh]
        · simp only [Array.toList_setIfInBounds]
          rw [List.take_set, h4]
    · exact h.done.fr hf (fun i hi => by obtain ⟨_, _, c0, h1⟩ := h.done.block hi; exact nt h1 ty_pm.symm)
    · refine (h.heads x hx).fr hf (fun b o c0 fz e hp h1 hm => ?_)
      exact h.s2 hbg x hx hp b o e (by rw [hm, ← hob])
  refine ⟨hr, ⟨hf.mono (fun i _ e => .inr (h.own_iff.2 (.inl (by rw [e]; exact hob)))), fun i hi ho2 => ?_⟩⟩
  rw [h.own_iff]
  exact hr.own_iff.1 ho2
set_option maxHeartbeats 4000000 in
set_option maxRecDepth 100000 in
theorem cValue_any (hT : TyOk T) (c : Cr) (v : CrV) (b : UInt8) (w : World) (h : CrR T ex w K base c v) (hbg : c.begun = true) (hl0 : c.word.length ≤ 1000000000) (hl : c.word.length ≤ 1000000000) (hlen : 0 ≤ c.length ∧ c.length ≤ 1000000000) (hp : -4000000000 ≤ c.pos ∧ c.pos ≤ 4000000000) (hli : -4000000000 ≤ c.line ∧ c.line ≤ 4000000000) (hck : c.kind = 2 → c.word.length ≤ 7) (hhn : ¬ c.kind = 1 → ¬ c.kind = 2 → c.m.head ≠ []) (hhl : c.m.head.length ≤ 1000) :
    Calls Tryz.prog 169 #[.pointer (some ⟨K, 0, none⟩), .int .u8 (b.toNat : Int)] w (CrP T ex K base (c.value b) w) := by
  obtain ⟨i0, hi, hz0, hz1, hz2⟩ := info_parts infoCU
  obtain ⟨A, k, hvw, hnc, hcm, hA⟩ := ownsRow_shape h.word
  have k11 := h.cell 11 (u := v.vw) rfl
  rw [hvw] at k11
  have HH := Lib.hid h
  have HO := h.word
  rw [hvw] at HO
  have hcvw := conv_own HO
  obtain ⟨n, hn⟩ : ∃ n, n = c.word.length := ⟨_, rfl⟩
  rw [← hn] at hvw hnc HO hcvw k11
  have HN := Lib.hid hn
  have HV := Lib.hid hvw
  have HO := Lib.hid HO
  have HWR := Lib.hid (cWrong_any hT c v w h)
  have hbw := h.bw
  have hKlt := h.lt
  unfold maxLen at hcm
  rw [← hn] at hl
  have k13 := h.cell 13 (u := .int .i64 c.kind) rfl
  have k1 := h.cell 1 (u := .int .i64 c.pos) rfl
  obtain ⟨kd, hkd⟩ : ∃ z, z = c.kind := ⟨_, rfl⟩
  rw [← hkd] at k13
  have HKD := Lib.hid hkd
  clear hkd
  by_cases hk1 : kd = 1
  {
    have HDG := Lib.hid (cDigit_any hT c v b w h hl0 hlen hp hli)
    have E := Lib.hid (show c.value b = c.digit b by unfold Cr.value; rw [if_pos (by rw [← HKD.out]; exact hk1)])
    have t1 : (kd == 1) = true := by simp [hk1]
    clear h hvw hn hk1
    go_enter Tryz.func169, Tryz.ntmps169
    go_wp2_with fail
    (with_reducible refine (HDG.out).mono ?_)
    rintro e w' ⟨rfl, h1, h2⟩
    go_wp2
    go_end0
    rw [E.out]
    exact ⟨rfl, h1, h2⟩
  }
  {
    by_cases hk2 : kd = 2
    {
      have HDG := Lib.hid (cChunked_any hT c v b w h (hck (by rw [← HKD.out]; exact hk2)) hp hli)
      have E := Lib.hid (show c.value b = c.chunked b by unfold Cr.value; rw [if_neg (by rw [← HKD.out]; exact hk1), if_pos (by rw [← HKD.out]; exact hk2)])
      have t1 : (kd == 1) = false := by simp [hk1]
      have t2 : (kd == 2) = true := by simp [hk2]
      clear h hvw hn hk1 hk2
      go_enter Tryz.func169, Tryz.ntmps169
      go_wp2_with fail
      (with_reducible refine (HDG.out).mono ?_)
      rintro e w' ⟨rfl, h1, h2⟩
      go_wp2
      go_end0
      rw [E.out]
      exact ⟨rfl, h1, h2⟩
    }
    {
      have t1 : (kd == 1) = false := by simp [hk1]
      have t2 : (kd == 2) = false := by simp [hk2]
      have EK := Lib.hid (show c.value b = (if b = 13 then c.setVal.goOn 11 else if !Cr.inTxt b then c.wrong else if c.full then c.fail c.pos 3 else { c with word := c.word ++ [b] }) by unfold Cr.value; rw [if_neg (by rw [← HKD.out]; exact hk1), if_neg (by rw [← HKD.out]; exact hk2)])
      by_cases h13 : b = 13
      {
        obtain ⟨hd, p, hhd⟩ : ∃ hd p, c.m.head = hd ++ [p] := by
          have hne := hhn (by rw [← HKD.out]; exact hk1) (by rw [← HKD.out]; exact hk2)
          exact ⟨c.m.head.dropLast, c.m.head.getLast hne, (List.dropLast_concat_getLast hne).symm⟩
        obtain ⟨y, hy⟩ : ∃ y, y = Cr.dropEnd Cr.isBlk c.word := ⟨_, rfl⟩
        have E := Lib.hid (show c.value b = ({ c with m := { c.m with head := hd ++ [(p.1, y)] } } : Cr).goOn 11 by rw [EK.out, if_pos h13]; unfold Cr.setVal; rw [hhd]; simp [hy])
        have t13 : ((b.toNat : Int) == 13) = true := by rw [h13]; rfl
        obtain ⟨m, hm⟩ : ∃ m, m = hd.length := ⟨_, rfl⟩
        have HOH := h.head hbg
        obtain ⟨gh, hk, hvh, hgb, hgl⟩ := HOH.form (by rw [hhd]; simp)
        rw [hhd, List.length_append, List.length_singleton, ← hm] at hvh
        have k9 := h.cell 9 (u := v.vh) rfl
        rw [hvh] at k9
        rw [hhd, List.length_append, List.length_singleton, ← hm, hvh] at HOH
        have hrc : w.cell? ⟨gh, m * 2 + 1, none⟩ = some (tx p.2) := by
          have := HOH.cells (g := gh) rfl (m * 2 + 1) (tx p.2) (by rw [prC_append, List.getElem?_append_right (by rw [prC_length, hm]; omega), prC_length, hm, show hd.length * 2 + 1 - hd.length * 2 = 1 by omega]; rfl)
          rwa [Addr.add_mid, Nat.zero_add] at this
        have hrz : ∀ j, w.frozen? ⟨gh, j, none⟩ = false := fun j => by
          rcases HOH.2 with ⟨hv, _⟩ | ⟨g', cap, cur, hv, _, hh, _⟩
          · cases hv
          · simp only [Value.slice.injEq, Option.some.injEq, Addr.mk.injEq] at hv
            obtain ⟨⟨rfl, _⟩, _⟩ := hv
            exact frozenAt hh j
        have HHD := Lib.hid hhd
        have HVH := Lib.hid hvh
        have HM := Lib.hid hm
        have hml : m ≤ 100000 := by rw [hhd, List.length_append, List.length_singleton, ← hm] at hhl; omega
        have HTR := Lib.hid (fun W => trimR_any c.word W (by rw [← hn]; omega))
        have HWM := Lib.hid (show IntKind.i64.wrap (m : Int) = m from IntWalk.i64_in _ (by omega))
        rw [← hy] at HTR
        have HS := Lib.hid (show ∀ X, Below w.heap.size w X → X.cell? ⟨K, 9, none⟩ = some (.slice (some ⟨gh, 0, none⟩) (m + 1) hk) ∧ X.cell? ⟨K, 11, none⟩ = some (.slice A n k) ∧ (convert 27 9 (.slice A n k)).run Tryz.prog X = .ok (tx c.word) X ∧ X.cell? ⟨gh, m * 2 + 1, none⟩ = some (tx p.2) ∧ ∀ j, X.frozen? ⟨gh, j, none⟩ = false from fun X hX => by
          refine ⟨(hX.cell hKlt).trans k9, (hX.cell hKlt).trans k11, ?_, (hX.cell hgl).trans hrc, fun j => ?_⟩
          · have hO2 := ownsRow_fr HO.out (Fr.of_below hX) (fun i hi hm => by have := (ownsRow_block HO.out hi).2; omega)
            rw [HN.out] at hO2
            have := conv_own hO2
            rwa [← HN.out] at this
          · have := hX.block gh hgl
            have hz := hrz j
            unfold World.frozen? at hz ⊢
            rwa [this])
        clear h hvw hn hk1 hk2 h13 hhd hy hm HOH hvh hrc hrz hgb k9 k11 hcvw
        go_enter Tryz.func169, Tryz.ntmps169
        go_upto_region 7 with fail
        refine wp_region_noPanic ?_
        refine wp_region_last (init := #[_, _, _, _, _, _, _, _, _, _, _, _, _, _, _, _, _, _, _, _]) (last := _) rfl (by kernel_rfl) (by kernel_rfl) (by kernel_rfl) ?_
        show wpAny _ _ _ _ 20 (Array.replicate 20 false) _ _
        refine wpAny_of_held (S := (fun X => Below w.heap.size w X)) _ _ _ _ ?_
        have HS0 : Below w.heap.size w w.drew := (Below.refl _ w).drew
        refine wpAnyH_take (i := 0) (v := ?_) rfl (by kernel_rfl) (by kernel_rfl) (by kernel_rfl) (fun _ _ _ h => h) (Or.inl ⟨by kernel_rfl, ?_⟩) HS0 ?_
        rotate_left
        · intro W hW; obtain ⟨hW0, hW1, hW2, hW3, hW4⟩ := HS.out W hW; go_simp; try (with_reducible rfl)
        refine wpAnyH_take (i := 1) (v := ?_) rfl (by kernel_rfl) (by kernel_rfl) (by kernel_rfl) (fun _ _ _ h => h) (Or.inl ⟨by kernel_rfl, ?_⟩) HS0 ?_
        rotate_left
        · intro W hW; obtain ⟨hW0, hW1, hW2, hW3, hW4⟩ := HS.out W hW; go_simp; try (with_reducible rfl)
        refine wpAnyH_take (i := 2) (v := ?_) rfl (by kernel_rfl) (by kernel_rfl) (by kernel_rfl) (fun _ _ _ h => h) (Or.inl ⟨by kernel_rfl, ?_⟩) HS0 ?_
        rotate_left
        · intro W hW; obtain ⟨hW0, hW1, hW2, hW3, hW4⟩ := HS.out W hW; go_simp; try (with_reducible rfl)
        refine wpAnyH_take (i := 3) (v := ?_) rfl (by kernel_rfl) (by kernel_rfl) (by kernel_rfl) (fun _ _ _ h => h) (Or.inl ⟨by kernel_rfl, ?_⟩) HS0 ?_
        rotate_left
        · intro W hW; obtain ⟨hW0, hW1, hW2, hW3, hW4⟩ := HS.out W hW; go_simp; try (with_reducible rfl)
        refine wpAnyH_take (i := 4) (v := ?_) rfl (by kernel_rfl) (by kernel_rfl) (by kernel_rfl) (fun _ _ _ h => h) (Or.inl ⟨by kernel_rfl, ?_⟩) HS0 ?_
        rotate_left
        · intro W hW; obtain ⟨hW0, hW1, hW2, hW3, hW4⟩ := HS.out W hW; go_simp; try (with_reducible rfl)
        refine wpAnyH_take (i := 5) (v := ?_) rfl (by kernel_rfl) (by kernel_rfl) (by kernel_rfl) (fun _ _ _ h => h) (Or.inl ⟨by kernel_rfl, ?_⟩) HS0 ?_
        rotate_left
        · intro W hW; obtain ⟨hW0, hW1, hW2, hW3, hW4⟩ := HS.out W hW; go_simp; try (with_reducible rfl)
        refine wpAnyH_take (i := 6) (v := ?_) rfl (by kernel_rfl) (by kernel_rfl) (by kernel_rfl) (fun _ _ _ h => h) (Or.inl ⟨by kernel_rfl, ?_⟩) HS0 ?_
        rotate_left
        · intro W hW; obtain ⟨hW0, hW1, hW2, hW3, hW4⟩ := HS.out W hW; go_simp; try (with_reducible rfl)
        refine wpAnyH_take (i := 7) (v := ?_) rfl (by kernel_rfl) (by kernel_rfl) (by kernel_rfl) (fun _ _ _ h => h) (Or.inl ⟨by kernel_rfl, ?_⟩) HS0 ?_
        rotate_left
        · intro W hW; obtain ⟨hW0, hW1, hW2, hW3, hW4⟩ := HS.out W hW; go_simp; try (with_reducible rfl)
        refine wpAnyH_take (i := 8) (v := ?_) rfl (by kernel_rfl) (by kernel_rfl) (by kernel_rfl) (fun _ _ _ h => h) (Or.inl ⟨by kernel_rfl, ?_⟩) HS0 ?_
        rotate_left
        · intro W hW; obtain ⟨hW0, hW1, hW2, hW3, hW4⟩ := HS.out W hW; go_simp; try (with_reducible rfl)
        refine wpAnyH_take (i := 9) (v := ?_) rfl (by kernel_rfl) (by kernel_rfl) (by kernel_rfl) (fun _ _ _ h => h) (Or.inl ⟨by kernel_rfl, ?_⟩) HS0 ?_
        rotate_left
        · intro W hW; obtain ⟨hW0, hW1, hW2, hW3, hW4⟩ := HS.out W hW; go_simp; try (with_reducible rfl)
        refine wpAnyH_take (i := 10) (v := ?_) rfl (by kernel_rfl) (by kernel_rfl) (by kernel_rfl) (fun _ _ _ h => h) (Or.inl ⟨by kernel_rfl, ?_⟩) HS0 ?_
        rotate_left
        · intro W hW; obtain ⟨hW0, hW1, hW2, hW3, hW4⟩ := HS.out W hW; go_simp; try (with_reducible rfl)
        refine wpAnyH_take (i := 11) (v := ?_) rfl (by kernel_rfl) (by kernel_rfl) (by kernel_rfl) (fun _ _ _ h => h) (Or.inl ⟨by kernel_rfl, ?_⟩) HS0 ?_
        rotate_left
        · intro W hW; obtain ⟨hW0, hW1, hW2, hW3, hW4⟩ := HS.out W hW; go_simp; try (with_reducible rfl)
        refine wpAnyH_take (i := 12) (v := ?_) rfl (by kernel_rfl) (by kernel_rfl) (by kernel_rfl) (fun _ _ _ h => h) (Or.inl ⟨by kernel_rfl, ?_⟩) HS0 ?_
        rotate_left
        · intro W hW; obtain ⟨hW0, hW1, hW2, hW3, hW4⟩ := HS.out W hW; go_simp; try (with_reducible rfl)
        refine wpAnyH_take (i := 13) (v := ?_) rfl (by kernel_rfl) (by kernel_rfl) (by kernel_rfl) (fun _ _ _ h => h) (Or.inl ⟨by kernel_rfl, ?_⟩) HS0 ?_
        rotate_left
        · intro W hW; obtain ⟨hW0, hW1, hW2, hW3, hW4⟩ := HS.out W hW; go_simp; try (with_reducible rfl)
        refine wpAnyH_take (i := 14) (v := ?_) rfl (by kernel_rfl) (by kernel_rfl) (by kernel_rfl) (fun _ _ _ h => h) (Or.inl ⟨by kernel_rfl, ?_⟩) HS0 ?_
        rotate_left
        · intro W hW; obtain ⟨hW0, hW1, hW2, hW3, hW4⟩ := HS.out W hW; go_simp; try (with_reducible rfl)
        refine wpAnyH_take (i := 15) (v := ?_) rfl (by kernel_rfl) (by kernel_rfl) (by kernel_rfl) (fun _ _ _ h => h) (Or.inl ⟨by kernel_rfl, ?_⟩) HS0 ?_
        rotate_left
        · intro W hW; obtain ⟨hW0, hW1, hW2, hW3, hW4⟩ := HS.out W hW; go_simp; try (with_reducible rfl)
        refine wpAnyH_take (i := 16) (v := ?_) rfl (by kernel_rfl) (by kernel_rfl) (by kernel_rfl) (fun _ _ _ h => h) (Or.inl ⟨by kernel_rfl, ?_⟩) HS0 ?_
        rotate_left
        · intro W hW; obtain ⟨hW0, hW1, hW2, hW3, hW4⟩ := HS.out W hW; go_simp; try (with_reducible rfl)
        clear HS0
        refine run_oneC (i := 17) (by kernel_rfl) rfl (by kernel_rfl) ?_
        intro KK hKK
        go_simp
        (with_reducible refine (HTR.out _).mono ?_)
        rintro e w4 ⟨rfl, hb4⟩
        have hb14 : Below w.heap.size w w4 := (Below.refl _ w).drew.trans hb4
        refine hKK.out _ _ hb14 ?_
        clear hKK KK
        intro HS0
        refine wpAnyH_take (i := 18) (v := .pointer (some ⟨gh, m * 2, none⟩)) rfl (by kernel_rfl) (by kernel_rfl) (by kernel_rfl) (fun _ _ _ h => h) (Or.inl ⟨by kernel_rfl, ?_⟩) HS0 ?_
        · intro W hW
          go_simp
          rw [HWM.out, if_pos ⟨by omega, by omega⟩, Int.toNat_natCast]
        refine wpAnyH_take (i := 19) (v := ?_) rfl (by kernel_rfl) (by kernel_rfl) (by kernel_rfl) (fun _ _ _ h => h) (Or.inl ⟨by kernel_rfl, ?_⟩) HS0 ?_
        rotate_left
        · intro W hW; obtain ⟨hW0, hW1, hW2, hW3, hW4⟩ := HS.out W hW; go_simp; try (with_reducible rfl)
        refine wpAnyH_done (by kernel_rfl) ?_ _
        obtain ⟨hW0, hW1, hW2, hW3, hW4⟩ := HS.out w4 hb14
        have hW5 := hW4 (m * 2 + 1)
        show Oper.wp _ _ _ _ _ _
        go_simp
        obtain ⟨hr4, hf4⟩ := HH.out.old hb14
        have HPV := Lib.hid (hr4.valH hT hbg (g := gh) (hk := hk) HHD.out (by rw [← HM.out]; exact HVH.out) y)
        rw [← HM.out] at HPV
        have HGO := Lib.hid (cGoOn_any hT _ v 11 _ HPV.out.1)
        have HF4 := Lib.hid hf4
        clear hr4 hf4 hW0 hW1 hW2 hW3 hW4 hW5 hb4 hb14
        refine NoPanic.normal ?_
        go_wp2_with fail
        (with_reducible refine (HGO.out).mono ?_)
        rintro e w' ⟨rfl, h1, h2⟩
        go_wp2
        go_end0
        rw [E.out]
        exact ⟨rfl, h1, HF4.out.trans (HPV.out.2.trans h2)⟩
      }
      {
        have t13 : ((b.toNat : Int) == 13) = false := by have h9 : b.toNat ≠ 13 := u8_ne h13; simp; omega
        have HT := Lib.hid (inText_any b w)
        have HFU := Lib.hid (cFull_any c v w h hp hli)
        clear h hvw hn hk1 hk2
        cases ht : Cr.inTxt b with
        | true =>
          cases hfu : c.full with
          | true =>
            have E := Lib.hid (show c.value b = c.fail c.pos 3 by rw [EK.out, if_neg h13, ht, if_neg (by simp), if_pos hfu])
            clear h13
            rw [ht] at HT
            have HT := Lib.hid HT.out
            rw [hfu] at HFU
            go_enter Tryz.func169, Tryz.ntmps169
            go_wp2_with fail
            (with_reducible refine (HT.out).mono ?_)
            rintro e w2 ⟨rfl, rfl⟩
            go_wp2_with fail
            (with_reducible refine (HFU.out).mono ?_)
            rintro e w3 ⟨rfl, hr2, hf2⟩
            have q1 := hr2.cell 1 (u := .int .i64 c.pos) rfl
            have HF := Lib.hid (cFail_any hT c v c.pos 3 w3 hr2)
            have HF2 := Lib.hid hf2
            clear hr2 hf2
            go_wp2_with fail
            (with_reducible refine (HF.out).mono ?_)
            rintro e w' ⟨rfl, h1, h2⟩
            go_wp2
            go_end0
            rw [E.out]
            exact ⟨rfl, h1, HF2.out.trans h2⟩
          | false =>
            have E := Lib.hid (show c.value b = { c with word := c.word ++ [b] } by rw [EK.out, if_neg h13, ht, if_neg (by simp), hfu, if_neg (by simp)])
            clear h13
            rw [ht] at HT
            have HT := Lib.hid HT.out
            rw [hfu] at HFU
            go_enter Tryz.func169, Tryz.ntmps169
            go_wp2_with fail
            (with_reducible refine (HT.out).mono ?_)
            rintro e w2 ⟨rfl, rfl⟩
            go_wp2_with fail
            (with_reducible refine (HFU.out).mono ?_)
            rintro e w3 ⟨rfl, hr2, hf2⟩
            have HHw := Lib.hid hr2
            have HOw := hr2.word
            rw [HV.out, ← HN.out] at HOw
            have HOw := Lib.hid HOw
            have HVw := HV
            have HFw := Lib.hid hf2
            have hbw := hr2.bw
            have hKlt := hr2.lt
            have k11 : w3.cell? ⟨K, 11, none⟩ = some (.slice A n k) := by rw [← HV.out]; exact hr2.cell 11 rfl
            clear hr2 hf2 k1 k13
            go_wp2_with (at_builtin; go_loud (refine wpList_append_lies _ rfl _ _ 27 rfl base 5 i0 (.int .u8 0) 1 1 Tryz.underlying27 hi hz0 hz1 hz2 rfl (by decide) (.slice A n k) n (Lib.byteCells c.word) rfl (HOw.out.alloc _) ⟨w3.heap.size, 0, none⟩ 1 1 [.int .u8 (b.toNat : Int)] rfl rfl ?c0 (by simp [Value.oneCell']) (by decide) ?c3 ?c4 ?c5 (w3.heap.size + 1) (by simp) ?_))
            case c0 => have := cell_one_new w3 (.int .u8 (b.toNat : Int)) 5; simpa using this
            case c3 => unfold maxLen; omega
            case c4 => omega
            case c5 => have := HHw.out.bw; simp; omega
            intro gw capw waw how hgw hatw hltw
            obtain ⟨hbw, hfw⟩ := HHw.out.boxW hT (by rw [HVw.out]; exact hgw)
            have qww : waw.cell? ⟨K, 11, none⟩ = some (.slice A n k) := (box_cell hbw 11 (u := v.vw) rfl).trans (by rw [HVw.out])
            have yww : waw.frozen? ⟨K, 11, none⟩ = false := frozenAt hbw 11
            have HPw := Lib.hid (HHw.out.putW hT (u := .slice (some ⟨gw, 0, none⟩) (n + 1) capw) hfw (c.word ++ [b]) (by rw [List.length_append, byteCells_snoc, ← HN.out]; exact how) (by rw [HVw.out]; exact hatw.elim (fun e => .inl e.symm) (fun e => .inr (fun q hq => by have hq : q = gw := Option.some.inj hq; omega))))
            clear how hgw hatw hbw hfw hltw HOw
            go_wp2
            go_end0
            rw [E.out]
            exact ⟨rfl, ⟨_, HPw.out.1⟩, HFw.out.trans HPw.out.2⟩
        | false =>
          have E := Lib.hid (show c.value b = c.wrong by rw [EK.out, if_neg h13, ht]; rfl)
          clear h13
          rw [ht] at HT
          go_enter Tryz.func169, Tryz.ntmps169
          go_wp2_with fail
          (with_reducible refine (HT.out).mono ?_)
          rintro e w2 ⟨rfl, rfl⟩
          go_wp2_with fail
          (with_reducible refine (HWR.out).mono ?_)
          rintro e w' ⟨rfl, h1, h2⟩
          go_wp2
          go_end0
          rw [E.out]
          exact ⟨rfl, h1, h2⟩
      }
    }
  }
end
end Go.Proofs.YthfloagpmmohkaaGreatDoor
