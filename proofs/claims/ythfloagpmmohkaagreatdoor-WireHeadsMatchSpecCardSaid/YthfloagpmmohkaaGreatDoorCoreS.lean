/- wire's reader of messages: the size of a chunk. Printed by wip/gen_core.py. -/
import Derived.Test.YthfloagpmmohkaaGreatDoorCoreE
namespace Go.Proofs.YthfloagpmmohkaaGreatDoor
open Go Go.RowKit Go.Proofs

section
variable {T : TypeId} {ex : List Value} {K base : Nat}
theorem hexV_bd (b : UInt8) : -1 ≤ Cr.hexV b ∧ Cr.hexV b ≤ 15 := by
  unfold Cr.hexV Cr.isDig
  have := b.toNat_lt
  split
  · rename_i h; simp at h; omega
  · split
    · rename_i h; simp at h; omega
    · split
      · rename_i h; simp at h; omega
      · omega
set_option maxHeartbeats 4000000 in
set_option maxRecDepth 100000 in
theorem cSize_any (hT : TyOk T) (c : Cr) (v : CrV) (b : UInt8) (w : World) (h : CrR T ex w K base c v) (hbg : c.begun = true) (hl : c.word.length ≤ 1000000000) (hlen : 0 ≤ c.length ∧ c.length ≤ 1000000000) (hbl : c.body.length ≤ 1000000000) :
    Calls Tryz.prog 174 #[.pointer (some ⟨K, 0, none⟩), .int .u8 (b.toNat : Int)] w (CrP T ex K base (c.size b) w) := by
  obtain ⟨i0, hi, hz0, hz1, hz2⟩ := info_parts infoCU
  obtain ⟨A, k, hvw, hnc, hcm, hA⟩ := ownsRow_shape h.word
  have k11 := h.cell 11 (u := v.vw) rfl
  rw [hvw] at k11
  have HH := Lib.hid h
  have HO := h.word
  rw [hvw] at HO
  have hcvw := conv_own HO
  obtain ⟨n, hn⟩ : ∃ n, n = c.word.length := ⟨_, rfl⟩
  rw [← hn] at hvw hnc HO hcvw k11
  have HN := Lib.hid hn
  have HV := Lib.hid hvw
  have HO := Lib.hid HO
  have HWR := Lib.hid (cWrong_any hT c v w h)
  have hbw := h.bw
  have hKlt := h.lt
  unfold maxLen at hcm
  rw [← hn] at hl
  obtain ⟨d, hd⟩ : ∃ d, d = Cr.hexV b := ⟨_, rfl⟩
  have hdb := hexV_bd b
  have HT := Lib.hid (hexDigit_any b w.drew)
  rw [← hd] at hdb HT
  have HDV := Lib.hid hd
  have HRD := Lib.hid h.drew
  have HWD := Lib.hid (cWrong_any hT c v w.drew h.drew)
  have b2 : w.cell? ⟨K, 2, none⟩ = some (.int .i64 c.place) := h.cell 2 rfl
  have z2 := h.frz 2
  have k1 := h.cell 1 (u := .int .i64 c.pos) rfl
  have z14 := h.frz 14
  have z15 := h.frz 15
  have b14 : w.cell? ⟨K, 14, none⟩ = some (.int .i64 c.length) := h.cell 14 rfl
  have b15 : w.cell? ⟨K, 15, none⟩ = some (.int .i64 c.first) := h.cell 15 rfl
  have POSF : ¬ 0 < n → Hid (decide (0 < n) = false ∧ decide ((0 : Int) < (n : Int)) = false) := fun h => Lib.hid ⟨decide_eq_false h, decide_eq_false (by omega)⟩
  clear h hvw hn hd
  by_cases h13 : b = 13 ∧ 0 < n
  {
    obtain ⟨h13, h0⟩ := h13
    have E := Lib.hid (show c.size b = { c with place := 15 } by unfold Cr.size; rw [if_pos ⟨h13, by rw [← HN.out]; exact h0⟩])
    have t13 : ((b.toNat : Int) == 13) = true := by rw [h13]; rfl
    clear h13
    go_enter Tryz.func174, Tryz.ntmps174
    go_upto_region 0 with fail
    refine wp_region_noPanic ?_
    refine wp_region_held_drew (S := (fun X => X = w.drew)) (by kernel_rfl) rfl (fun HS0 => ?_)
    refine wpAnyH_take (i := 0) (v := ?_) rfl (by kernel_rfl) (by kernel_rfl) (by kernel_rfl) (fun _ _ _ h => h) (Or.inl ⟨by kernel_rfl, ?_⟩) HS0 ?_
    rotate_left
    · intro W hW; subst hW; go_simp; try (with_reducible rfl)
    refine wpAnyH_take (i := 1) (v := ?_) rfl (by kernel_rfl) (by kernel_rfl) (by kernel_rfl) (fun _ _ _ h => h) (Or.inl ⟨by kernel_rfl, ?_⟩) HS0 ?_
    rotate_left
    · intro W hW; subst hW; go_simp; try (with_reducible rfl)
    refine wpAnyH_take (i := 2) (v := ?_) rfl (by kernel_rfl) (by kernel_rfl) (by kernel_rfl) (fun _ _ _ h => h) (Or.inl ⟨by kernel_rfl, ?_⟩) HS0 ?_
    rotate_left
    · intro W hW; subst hW; go_simp; try (with_reducible rfl)
    refine wpAnyH_take (i := 3) (v := ?_) rfl (by kernel_rfl) (by kernel_rfl) (by kernel_rfl) (fun _ _ _ h => h) (Or.inl ⟨by kernel_rfl, ?_⟩) HS0 ?_
    rotate_left
    · intro W hW; subst hW; go_simp; try (with_reducible rfl)
    refine wpAnyH_take (i := 4) (v := ?_) rfl (by kernel_rfl) (by kernel_rfl) (by kernel_rfl) (fun _ _ _ h => h) (Or.inl ⟨by kernel_rfl, ?_⟩) HS0 ?_
    rotate_left
    · intro W hW; subst hW; go_simp; try (with_reducible rfl)
    refine wpAnyH_take (i := 5) (v := ?_) rfl (by kernel_rfl) (by kernel_rfl) (by kernel_rfl) (fun _ _ _ h => h) (Or.inl ⟨by kernel_rfl, ?_⟩) HS0 ?_
    rotate_left
    · intro W hW; subst hW; go_simp; try (with_reducible rfl)
    clear HS0
    refine run_oneC (i := 6) (by kernel_rfl) rfl (by kernel_rfl) ?_
    intro KK hK
    go_simp
    (with_reducible refine HT.out.mono ?_)
    rintro e w4 ⟨rfl, rfl⟩
    refine hK.out _ _ rfl ?_
    clear hK KK
    intro HS0
    refine wpAnyH_take (i := 7) (v := ?_) rfl (by kernel_rfl) (by kernel_rfl) (by kernel_rfl) (fun _ _ _ h => h) (Or.inl ⟨by kernel_rfl, ?_⟩) HS0 ?_
    rotate_left
    · intro W hW; subst hW; go_simp; try (with_reducible rfl)
    refine wpAnyH_take (i := 8) (v := ?_) rfl (by kernel_rfl) (by kernel_rfl) (by kernel_rfl) (fun _ _ _ h => h) (Or.inl ⟨by kernel_rfl, ?_⟩) HS0 ?_
    rotate_left
    · intro W hW; subst hW; go_simp; try (with_reducible rfl)
    refine wpAnyH_done (by kernel_rfl) ?_ _
    refine NoPanic.normal ?_
    (try go_simp)
    clear HS0
    have HP := Lib.hid (HRD.out.put hT (c' := { c with place := 15 }) 2 (.int .i64 15) rfl (by omega) rfl (fun hb => ⟨hb, rfl, rfl⟩) rfl)
    go_wp2
    go_end0
    rw [E.out]
    exact ⟨rfl, ⟨_, HP.out.1⟩, ((CrF.refl K w).drew).trans HP.out.2⟩
  }
  {
    by_cases hdn : d < 0
    {
      have E := Lib.hid (show c.size b = c.wrong by unfold Cr.size; rw [if_neg (by rw [← HN.out]; exact h13), if_pos (.inl (by rw [← HDV.out]; exact hdn))])
      have tdn := decide_eq_true hdn
      by_cases hq : b.toNat = 13
      {
        have t13 : ((b.toNat : Int) == 13) = true := by simp; omega
        have hn0 : ¬ 0 < n := fun q => h13 ⟨UInt8.toNat_inj.1 (show b.toNat = (13 : UInt8).toNat from hq), q⟩
        obtain ⟨g1, g2⟩ := (POSF hn0).out
        clear hq hn0 h13
        clear hdn
        go_enter Tryz.func174, Tryz.ntmps174
        go_upto_region 0 with fail
        refine wp_region_noPanic ?_
        refine wp_region_held_drew (S := (fun X => X = w.drew)) (by kernel_rfl) rfl (fun HS0 => ?_)
        refine wpAnyH_take (i := 0) (v := ?_) rfl (by kernel_rfl) (by kernel_rfl) (by kernel_rfl) (fun _ _ _ h => h) (Or.inl ⟨by kernel_rfl, ?_⟩) HS0 ?_
        rotate_left
        · intro W hW; subst hW; go_simp; try (with_reducible rfl)
        refine wpAnyH_take (i := 1) (v := ?_) rfl (by kernel_rfl) (by kernel_rfl) (by kernel_rfl) (fun _ _ _ h => h) (Or.inl ⟨by kernel_rfl, ?_⟩) HS0 ?_
        rotate_left
        · intro W hW; subst hW; go_simp; try (with_reducible rfl)
        refine wpAnyH_take (i := 2) (v := ?_) rfl (by kernel_rfl) (by kernel_rfl) (by kernel_rfl) (fun _ _ _ h => h) (Or.inl ⟨by kernel_rfl, ?_⟩) HS0 ?_
        rotate_left
        · intro W hW; subst hW; go_simp; try (with_reducible rfl)
        refine wpAnyH_take (i := 3) (v := ?_) rfl (by kernel_rfl) (by kernel_rfl) (by kernel_rfl) (fun _ _ _ h => h) (Or.inl ⟨by kernel_rfl, ?_⟩) HS0 ?_
        rotate_left
        · intro W hW; subst hW; go_simp; try (with_reducible rfl)
        refine wpAnyH_take (i := 4) (v := ?_) rfl (by kernel_rfl) (by kernel_rfl) (by kernel_rfl) (fun _ _ _ h => h) (Or.inl ⟨by kernel_rfl, ?_⟩) HS0 ?_
        rotate_left
        · intro W hW; subst hW; go_simp; try (with_reducible rfl)
        refine wpAnyH_take (i := 5) (v := ?_) rfl (by kernel_rfl) (by kernel_rfl) (by kernel_rfl) (fun _ _ _ h => h) (Or.inl ⟨by kernel_rfl, ?_⟩) HS0 ?_
        rotate_left
        · intro W hW; subst hW; go_simp; try (with_reducible rfl)
        clear HS0
        refine run_oneC (i := 6) (by kernel_rfl) rfl (by kernel_rfl) ?_
        intro KK hK
        go_simp
        (with_reducible refine HT.out.mono ?_)
        rintro e w4 ⟨rfl, rfl⟩
        refine hK.out _ _ rfl ?_
        clear hK KK
        intro HS0
        refine wpAnyH_take (i := 7) (v := ?_) rfl (by kernel_rfl) (by kernel_rfl) (by kernel_rfl) (fun _ _ _ h => h) (Or.inl ⟨by kernel_rfl, ?_⟩) HS0 ?_
        rotate_left
        · intro W hW; subst hW; go_simp; try (with_reducible rfl)
        refine wpAnyH_take (i := 8) (v := ?_) rfl (by kernel_rfl) (by kernel_rfl) (by kernel_rfl) (fun _ _ _ h => h) (Or.inl ⟨by kernel_rfl, ?_⟩) HS0 ?_
        rotate_left
        · intro W hW; subst hW; go_simp; try (with_reducible rfl)
        refine wpAnyH_done (by kernel_rfl) ?_ _
        refine NoPanic.normal ?_
        (try go_simp)
        clear HS0
        go_wp2_with fail
        (with_reducible refine (HWD.out).mono ?_)
        rintro e w' ⟨rfl, h1, h2⟩
        go_wp2
        go_end0
        rw [E.out]
        exact ⟨rfl, h1, ((CrF.refl K w).drew).trans h2⟩
      }
      {
        have t13 : ((b.toNat : Int) == 13) = false := by simp; omega
        clear hq h13
        clear hdn
        go_enter Tryz.func174, Tryz.ntmps174
        go_upto_region 0 with fail
        refine wp_region_noPanic ?_
        refine wp_region_held_drew (S := (fun X => X = w.drew)) (by kernel_rfl) rfl (fun HS0 => ?_)
        refine wpAnyH_take (i := 0) (v := ?_) rfl (by kernel_rfl) (by kernel_rfl) (by kernel_rfl) (fun _ _ _ h => h) (Or.inl ⟨by kernel_rfl, ?_⟩) HS0 ?_
        rotate_left
        · intro W hW; subst hW; go_simp; try (with_reducible rfl)
        refine wpAnyH_take (i := 1) (v := ?_) rfl (by kernel_rfl) (by kernel_rfl) (by kernel_rfl) (fun _ _ _ h => h) (Or.inl ⟨by kernel_rfl, ?_⟩) HS0 ?_
        rotate_left
        · intro W hW; subst hW; go_simp; try (with_reducible rfl)
        refine wpAnyH_take (i := 2) (v := ?_) rfl (by kernel_rfl) (by kernel_rfl) (by kernel_rfl) (fun _ _ _ h => h) (Or.inl ⟨by kernel_rfl, ?_⟩) HS0 ?_
        rotate_left
        · intro W hW; subst hW; go_simp; try (with_reducible rfl)
        refine wpAnyH_take (i := 3) (v := ?_) rfl (by kernel_rfl) (by kernel_rfl) (by kernel_rfl) (fun _ _ _ h => h) (Or.inl ⟨by kernel_rfl, ?_⟩) HS0 ?_
        rotate_left
        · intro W hW; subst hW; go_simp; try (with_reducible rfl)
        refine wpAnyH_take (i := 4) (v := ?_) rfl (by kernel_rfl) (by kernel_rfl) (by kernel_rfl) (fun _ _ _ h => h) (Or.inl ⟨by kernel_rfl, ?_⟩) HS0 ?_
        rotate_left
        · intro W hW; subst hW; go_simp; try (with_reducible rfl)
        refine wpAnyH_take (i := 5) (v := ?_) rfl (by kernel_rfl) (by kernel_rfl) (by kernel_rfl) (fun _ _ _ h => h) (Or.inl ⟨by kernel_rfl, ?_⟩) HS0 ?_
        rotate_left
        · intro W hW; subst hW; go_simp; try (with_reducible rfl)
        clear HS0
        refine run_oneC (i := 6) (by kernel_rfl) rfl (by kernel_rfl) ?_
        intro KK hK
        go_simp
        (with_reducible refine HT.out.mono ?_)
        rintro e w4 ⟨rfl, rfl⟩
        refine hK.out _ _ rfl ?_
        clear hK KK
        intro HS0
        refine wpAnyH_take (i := 7) (v := ?_) rfl (by kernel_rfl) (by kernel_rfl) (by kernel_rfl) (fun _ _ _ h => h) (Or.inl ⟨by kernel_rfl, ?_⟩) HS0 ?_
        rotate_left
        · intro W hW; subst hW; go_simp; try (with_reducible rfl)
        refine wpAnyH_take (i := 8) (v := ?_) rfl (by kernel_rfl) (by kernel_rfl) (by kernel_rfl) (fun _ _ _ h => h) (Or.inl ⟨by kernel_rfl, ?_⟩) HS0 ?_
        rotate_left
        · intro W hW; subst hW; go_simp; try (with_reducible rfl)
        refine wpAnyH_done (by kernel_rfl) ?_ _
        refine NoPanic.normal ?_
        (try go_simp)
        clear HS0
        go_wp2_with fail
        (with_reducible refine (HWD.out).mono ?_)
        rintro e w' ⟨rfl, h1, h2⟩
        go_wp2
        go_end0
        rw [E.out]
        exact ⟨rfl, h1, ((CrF.refl K w).drew).trans h2⟩
      }
    }
    {
      by_cases h6 : n = 6
      {
        have E := Lib.hid (show c.size b = c.wrong by unfold Cr.size; rw [if_neg (by rw [← HN.out]; exact h13), if_pos (.inr (.inl (by rw [← HN.out]; exact h6)))])
        have t6 : ((n : Int) == 6) = true := by simp; omega
        have tdn := decide_eq_false hdn
        have h0 : 0 < n := by omega
        have t13 : ((b.toNat : Int) == 13) = false := by
          have h9 : b.toNat ≠ 13 := fun q => h13 ⟨UInt8.toNat_inj.1 (show b.toNat = (13 : UInt8).toNat from q), h0⟩
          simp; omega
        clear h6 h13 hdn POSF
        go_enter Tryz.func174, Tryz.ntmps174
        go_upto_region 0 with fail
        refine wp_region_noPanic ?_
        refine wp_region_held_drew (S := (fun X => X = w.drew)) (by kernel_rfl) rfl (fun HS0 => ?_)
        refine wpAnyH_take (i := 0) (v := ?_) rfl (by kernel_rfl) (by kernel_rfl) (by kernel_rfl) (fun _ _ _ h => h) (Or.inl ⟨by kernel_rfl, ?_⟩) HS0 ?_
        rotate_left
        · intro W hW; subst hW; go_simp; try (with_reducible rfl)
        refine wpAnyH_take (i := 1) (v := ?_) rfl (by kernel_rfl) (by kernel_rfl) (by kernel_rfl) (fun _ _ _ h => h) (Or.inl ⟨by kernel_rfl, ?_⟩) HS0 ?_
        rotate_left
        · intro W hW; subst hW; go_simp; try (with_reducible rfl)
        refine wpAnyH_take (i := 2) (v := ?_) rfl (by kernel_rfl) (by kernel_rfl) (by kernel_rfl) (fun _ _ _ h => h) (Or.inl ⟨by kernel_rfl, ?_⟩) HS0 ?_
        rotate_left
        · intro W hW; subst hW; go_simp; try (with_reducible rfl)
        refine wpAnyH_take (i := 3) (v := ?_) rfl (by kernel_rfl) (by kernel_rfl) (by kernel_rfl) (fun _ _ _ h => h) (Or.inl ⟨by kernel_rfl, ?_⟩) HS0 ?_
        rotate_left
        · intro W hW; subst hW; go_simp; try (with_reducible rfl)
        refine wpAnyH_take (i := 4) (v := ?_) rfl (by kernel_rfl) (by kernel_rfl) (by kernel_rfl) (fun _ _ _ h => h) (Or.inl ⟨by kernel_rfl, ?_⟩) HS0 ?_
        rotate_left
        · intro W hW; subst hW; go_simp; try (with_reducible rfl)
        refine wpAnyH_take (i := 5) (v := ?_) rfl (by kernel_rfl) (by kernel_rfl) (by kernel_rfl) (fun _ _ _ h => h) (Or.inl ⟨by kernel_rfl, ?_⟩) HS0 ?_
        rotate_left
        · intro W hW; subst hW; go_simp; try (with_reducible rfl)
        clear HS0
        refine run_oneC (i := 6) (by kernel_rfl) rfl (by kernel_rfl) ?_
        intro KK hK
        go_simp
        (with_reducible refine HT.out.mono ?_)
        rintro e w4 ⟨rfl, rfl⟩
        refine hK.out _ _ rfl ?_
        clear hK KK
        intro HS0
        refine wpAnyH_take (i := 7) (v := ?_) rfl (by kernel_rfl) (by kernel_rfl) (by kernel_rfl) (fun _ _ _ h => h) (Or.inl ⟨by kernel_rfl, ?_⟩) HS0 ?_
        rotate_left
        · intro W hW; subst hW; go_simp; try (with_reducible rfl)
        refine wpAnyH_take (i := 8) (v := ?_) rfl (by kernel_rfl) (by kernel_rfl) (by kernel_rfl) (fun _ _ _ h => h) (Or.inl ⟨by kernel_rfl, ?_⟩) HS0 ?_
        rotate_left
        · intro W hW; subst hW; go_simp; try (with_reducible rfl)
        refine wpAnyH_done (by kernel_rfl) ?_ _
        refine NoPanic.normal ?_
        (try go_simp)
        clear HS0
        go_wp2_with fail
        (with_reducible refine (HWD.out).mono ?_)
        rintro e w' ⟨rfl, h1, h2⟩
        go_wp2
        go_end0
        rw [E.out]
        exact ⟨rfl, h1, ((CrF.refl K w).drew).trans h2⟩
      }
      {
        have HZ : Hid (0 < n → ∃ (g : Nat) (x0 : UInt8), A = some ⟨g, 0, none⟩ ∧ w.cell? ⟨g, 0, none⟩ = some (.int .u8 (x0.toNat : Int)) ∧ c.word[0]? = some x0) := Lib.hid (fun h0 => by
          obtain ⟨x0, hx0⟩ : ∃ x, c.word[0]? = some x := ⟨_, List.getElem?_eq_getElem (by rw [← HN.out]; exact h0)⟩
          obtain ⟨g, hg⟩ : ∃ g, A = some ⟨g, 0, none⟩ := by
            rcases HO.out.2 with ⟨_, h9⟩ | ⟨g, cap, cur, hv, _⟩
            · omega
            · simp only [Value.slice.injEq] at hv
              exact ⟨g, hv.1⟩
          have hc := HO.out
          rw [hg] at hc
          exact ⟨g, x0, hg, hc.cells (g := g) rfl 0 (.int .u8 (x0.toNat : Int)) (by simp [Lib.byteCells, hx0]), hx0⟩)
        by_cases hz : 0 < n ∧ c.word[0]? = some 48
        {
          obtain ⟨h0, hz⟩ := hz
          obtain ⟨g, x0, hA0, hx0, hx1⟩ := HZ.out h0
          rw [hz] at hx1
          obtain rfl : (48 : UInt8) = x0 := Option.some.inj hx1
          rw [hA0] at k11
          have E := Lib.hid (show c.size b = c.wrong by unfold Cr.size; rw [if_neg (by rw [← HN.out]; exact h13), if_pos (.inr (.inr ⟨by rw [← HN.out]; exact h0, hz⟩))])
          have t6 : ((n : Int) == 6) = false := by simp; omega
          have tdn := decide_eq_false hdn
          have t13 : ((b.toNat : Int) == 13) = false := by
            have h9 : b.toNat ≠ 13 := fun q => h13 ⟨UInt8.toNat_inj.1 (show b.toNat = (13 : UInt8).toNat from q), h0⟩
            simp; omega
          clear h6 h13 hdn POSF HZ hz hx1
          go_enter Tryz.func174, Tryz.ntmps174
          go_upto_region 0 with fail
          refine wp_region_noPanic ?_
          refine wp_region_held_drew (S := (fun X => X = w.drew)) (by kernel_rfl) rfl (fun HS0 => ?_)
          refine wpAnyH_take (i := 0) (v := ?_) rfl (by kernel_rfl) (by kernel_rfl) (by kernel_rfl) (fun _ _ _ h => h) (Or.inl ⟨by kernel_rfl, ?_⟩) HS0 ?_
          rotate_left
          · intro W hW; subst hW; go_simp; try (with_reducible rfl)
          refine wpAnyH_take (i := 1) (v := ?_) rfl (by kernel_rfl) (by kernel_rfl) (by kernel_rfl) (fun _ _ _ h => h) (Or.inl ⟨by kernel_rfl, ?_⟩) HS0 ?_
          rotate_left
          · intro W hW; subst hW; go_simp; try (with_reducible rfl)
          refine wpAnyH_take (i := 2) (v := ?_) rfl (by kernel_rfl) (by kernel_rfl) (by kernel_rfl) (fun _ _ _ h => h) (Or.inl ⟨by kernel_rfl, ?_⟩) HS0 ?_
          rotate_left
          · intro W hW; subst hW; go_simp; try (with_reducible rfl)
          refine wpAnyH_take (i := 3) (v := ?_) rfl (by kernel_rfl) (by kernel_rfl) (by kernel_rfl) (fun _ _ _ h => h) (Or.inl ⟨by kernel_rfl, ?_⟩) HS0 ?_
          rotate_left
          · intro W hW; subst hW; go_simp; try (with_reducible rfl)
          refine wpAnyH_take (i := 4) (v := ?_) rfl (by kernel_rfl) (by kernel_rfl) (by kernel_rfl) (fun _ _ _ h => h) (Or.inl ⟨by kernel_rfl, ?_⟩) HS0 ?_
          rotate_left
          · intro W hW; subst hW; go_simp; try (with_reducible rfl)
          refine wpAnyH_take (i := 5) (v := ?_) rfl (by kernel_rfl) (by kernel_rfl) (by kernel_rfl) (fun _ _ _ h => h) (Or.inl ⟨by kernel_rfl, ?_⟩) HS0 ?_
          rotate_left
          · intro W hW; subst hW; go_simp; try (with_reducible rfl)
          clear HS0
          refine run_oneC (i := 6) (by kernel_rfl) rfl (by kernel_rfl) ?_
          intro KK hK
          go_simp
          (with_reducible refine HT.out.mono ?_)
          rintro e w4 ⟨rfl, rfl⟩
          refine hK.out _ _ rfl ?_
          clear hK KK
          intro HS0
          refine wpAnyH_take (i := 7) (v := ?_) rfl (by kernel_rfl) (by kernel_rfl) (by kernel_rfl) (fun _ _ _ h => h) (Or.inl ⟨by kernel_rfl, ?_⟩) HS0 ?_
          rotate_left
          · intro W hW; subst hW; go_simp; try (with_reducible rfl)
          refine wpAnyH_take (i := 8) (v := ?_) rfl (by kernel_rfl) (by kernel_rfl) (by kernel_rfl) (fun _ _ _ h => h) (Or.inl ⟨by kernel_rfl, ?_⟩) HS0 ?_
          rotate_left
          · intro W hW; subst hW; go_simp; try (with_reducible rfl)
          refine wpAnyH_done (by kernel_rfl) ?_ _
          refine NoPanic.normal ?_
          (try go_simp)
          clear HS0
          go_wp2_with fail
          (with_reducible refine (HWD.out).mono ?_)
          rintro e w' ⟨rfl, h1, h2⟩
          go_wp2
          go_end0
          rw [E.out]
          exact ⟨rfl, h1, ((CrF.refl K w).drew).trans h2⟩
        }
        {
          have hy : ¬ (Cr.hexV b < 0 ∨ c.word.length = 6 ∨ (0 < c.word.length ∧ c.word[0]? = some 48)) := fun q => q.elim (fun q => hdn (by rw [HDV.out]; exact q)) (fun q => q.elim (fun q => h6 (by rw [HN.out]; exact q)) (fun q => hz ⟨by rw [HN.out]; exact q.1, q.2⟩))
          have HZ : Hid (0 < n → ∃ (g : Nat) (x0 : UInt8), A = some ⟨g, 0, none⟩ ∧ w.cell? ⟨g, 0, none⟩ = some (.int .u8 (x0.toNat : Int)) ∧ ¬ x0 = 48) := Lib.hid (fun h0 => by
            obtain ⟨g, x0, q1, q2, q3⟩ := HZ.out h0
            exact ⟨g, x0, q1, q2, fun e => hz ⟨h0, by rw [q3, e]⟩⟩)
          clear hz
          obtain ⟨cA, hcA⟩ : ∃ x, x = c.digA := ⟨_, rfl⟩
          obtain ⟨cD, hcD⟩ : ∃ x, x = cA.digD b 16 d := ⟨_, rfl⟩
          have E := Lib.hid (show c.size b = cD.digE c.body.length by unfold Cr.size; rw [if_neg (by rw [← HN.out]; exact h13), if_neg hy, ← HDV.out, ← hcA, ← hcD])
          obtain ⟨eA1, eA2, eA3, eA4, eA5, eA6, eA7⟩ := c.digA_eqs
          rw [← hcA] at eA1 eA2 eA3 eA4 eA5 eA6 eA7
          have hlA : 0 ≤ cA.length ∧ cA.length ≤ 1000000000 := by
            rw [hcA]
            unfold Cr.digA
            split
            · exact ⟨by simp, by simp⟩
            · exact hlen
          have HEA := Lib.hid (show cA.word = c.word ∧ cA.begun = c.begun ∧ cA.body = c.body from ⟨eA1, eA4, eA5⟩)
          have HCA := Lib.hid hcA
          have HCD := Lib.hid hcD
          have HLA := Lib.hid hlA
          have HBG := Lib.hid hbg
          clear eA1 eA2 eA3 eA4 eA5 eA6 eA7 hlA hcA hcD hy hbg
          have t6 : ((n : Int) == 6) = false := by simp; omega
          have tdn := decide_eq_false hdn
          clear h6 hdn
          by_cases h0 : 0 < n
          {
            obtain ⟨g, x0, hA0, hx0, hx48⟩ := HZ.out h0
            have k0 : w.cell? ⟨g, 0, none⟩ = some (.int .u8 (x0.toNat : Int)) := hx0
            have HAS := Lib.hid hA0
            have t0 : ((n : Int) == 0) = false := by simp; omega
            have t48 : ((x0.toNat : Int) == 48) = false := by have h9 : x0.toNat ≠ 48 := u8_ne hx48; simp; omega
            have E0 := Lib.hid (show cA = c by rw [HCA.out]; unfold Cr.digA; rw [if_neg (by rw [← HN.out]; omega)])
            have t13 : ((b.toNat : Int) == 13) = false := by
              have h9 : b.toNat ≠ 13 := fun q => h13 ⟨UInt8.toNat_inj.1 (show b.toNat = (13 : UInt8).toNat from q), h0⟩
              simp; omega
            rw [hA0] at k11
            clear HZ POSF hx0 hx48 h13 hA0
            go_enter Tryz.func174, Tryz.ntmps174
            go_upto_region 0 with fail
            refine wp_region_noPanic ?_
            refine wp_region_held_drew (S := (fun X => X = w.drew)) (by kernel_rfl) rfl (fun HS0 => ?_)
            refine wpAnyH_take (i := 0) (v := ?_) rfl (by kernel_rfl) (by kernel_rfl) (by kernel_rfl) (fun _ _ _ h => h) (Or.inl ⟨by kernel_rfl, ?_⟩) HS0 ?_
            rotate_left
            · intro W hW; subst hW; go_simp; try (with_reducible rfl)
            refine wpAnyH_take (i := 1) (v := ?_) rfl (by kernel_rfl) (by kernel_rfl) (by kernel_rfl) (fun _ _ _ h => h) (Or.inl ⟨by kernel_rfl, ?_⟩) HS0 ?_
            rotate_left
            · intro W hW; subst hW; go_simp; try (with_reducible rfl)
            refine wpAnyH_take (i := 2) (v := ?_) rfl (by kernel_rfl) (by kernel_rfl) (by kernel_rfl) (fun _ _ _ h => h) (Or.inl ⟨by kernel_rfl, ?_⟩) HS0 ?_
            rotate_left
            · intro W hW; subst hW; go_simp; try (with_reducible rfl)
            refine wpAnyH_take (i := 3) (v := ?_) rfl (by kernel_rfl) (by kernel_rfl) (by kernel_rfl) (fun _ _ _ h => h) (Or.inl ⟨by kernel_rfl, ?_⟩) HS0 ?_
            rotate_left
            · intro W hW; subst hW; go_simp; try (with_reducible rfl)
            refine wpAnyH_take (i := 4) (v := ?_) rfl (by kernel_rfl) (by kernel_rfl) (by kernel_rfl) (fun _ _ _ h => h) (Or.inl ⟨by kernel_rfl, ?_⟩) HS0 ?_
            rotate_left
            · intro W hW; subst hW; go_simp; try (with_reducible rfl)
            refine wpAnyH_take (i := 5) (v := ?_) rfl (by kernel_rfl) (by kernel_rfl) (by kernel_rfl) (fun _ _ _ h => h) (Or.inl ⟨by kernel_rfl, ?_⟩) HS0 ?_
            rotate_left
            · intro W hW; subst hW; go_simp; try (with_reducible rfl)
            clear HS0
            refine run_oneC (i := 6) (by kernel_rfl) rfl (by kernel_rfl) ?_
            intro KK hK
            go_simp
            (with_reducible refine HT.out.mono ?_)
            rintro e w4 ⟨rfl, rfl⟩
            refine hK.out _ _ rfl ?_
            clear hK KK
            intro HS0
            refine wpAnyH_take (i := 7) (v := ?_) rfl (by kernel_rfl) (by kernel_rfl) (by kernel_rfl) (fun _ _ _ h => h) (Or.inl ⟨by kernel_rfl, ?_⟩) HS0 ?_
            rotate_left
            · intro W hW; subst hW; go_simp; try (with_reducible rfl)
            refine wpAnyH_take (i := 8) (v := ?_) rfl (by kernel_rfl) (by kernel_rfl) (by kernel_rfl) (fun _ _ _ h => h) (Or.inl ⟨by kernel_rfl, ?_⟩) HS0 ?_
            rotate_left
            · intro W hW; subst hW; go_simp; try (with_reducible rfl)
            refine wpAnyH_done (by kernel_rfl) ?_ _
            refine NoPanic.normal ?_
            (try go_simp)
            clear HS0
            go_upto_block 0 with fail
            go_cut [] (fun wc => ∃ v', CrR T ex wc K base cA v' ∧ CrF K w wc)
            case first =>
              go_wp2_with fail
              go_meet
              rw [E0.out]
              exact ⟨v, HRD.out, (CrF.refl K w).drew⟩
            case rest =>
              obtain ⟨vC, hrC, hfC⟩ := hcut
              have hnC : n = cA.word.length := by rw [HEA.out.1, HN.out]
              obtain ⟨A2, k2, hvC, hnc2, hcm2, hA2⟩ := ownsRow_shape hrC.word
              rw [← hnC] at hvC
              have q11 := hrC.cell 11 (u := vC.vw) rfl
              rw [hvC] at q11
              obtain ⟨B2, kb2, hvb, _, hbm, _⟩ := ownsRow_shape (hrC.body (by rw [HEA.out.2.1]; exact HBG.out))
              obtain ⟨nb, hnb⟩ : ∃ z, z = cA.body.length := ⟨_, rfl⟩
              rw [← hnb] at hvb
              have HNB := Lib.hid (show (nb : Int) = c.body.length by rw [hnb, HEA.out.2.2])
              have hnbl : (nb : Int) ≤ 1000000000 := by rw [HNB.out]; omega
              have HVB := Lib.hid hvb
              have HOw := hrC.word
              rw [← hnC, hvC] at HOw
              have HOw := Lib.hid HOw
              have HHw := Lib.hid hrC
              have HVw := Lib.hid hvC
              have HNC := Lib.hid hnC
              have HFC := Lib.hid hfC
              have hKlt2 := hrC.lt
              have hbw2 := hrC.bw
              unfold maxLen at hcm2 hbm
              obtain ⟨lC1, lC2⟩ := HLA.out
              clear hrC hvC hnC hfC HO hnb hvb k11 z2 k1 z14 z15 b14 b15 b2 hcvw
              obtain ⟨len, hlen2⟩ : ∃ z, z = cA.length := ⟨_, rfl⟩
              obtain ⟨fst, hfst⟩ : ∃ z, z = cA.first := ⟨_, rfl⟩
              rw [← hlen2] at lC1 lC2
              have HLE := Lib.hid hlen2
              have HFI := Lib.hid hfst
              clear hlen2 hfst
              go_wp2_with (at_builtin; go_loud (refine wpList_append_lies _ rfl _ _ 27 rfl base 5 i0 (.int .u8 0) 1 1 Tryz.underlying27 hi hz0 hz1 hz2 rfl (by decide) (.slice A2 n k2) n (Lib.byteCells cA.word) rfl (HOw.out.alloc _) ⟨wc.heap.size, 0, none⟩ 1 1 [.int .u8 (b.toNat : Int)] rfl rfl ?c0 (by simp [Value.oneCell']) (by decide) ?c3 ?c4 ?c5 (wc.heap.size + 1) (by simp) ?_))
              case c0 => have := cell_one_new wc (.int .u8 (b.toNat : Int)) 5; simpa using this
              case c3 => unfold maxLen; omega
              case c4 => omega
              case c5 => have := HHw.out.bw; simp; omega
              intro gw capw waw how hgw hatw hltw
              obtain ⟨hbw, hfw⟩ := HHw.out.boxW hT (by rw [HVw.out]; exact hgw)
              have qww : waw.cell? ⟨K, 11, none⟩ = some (.slice A2 n k2) := (box_cell hbw 11 (u := vC.vw) rfl).trans (by rw [HVw.out])
              have yww : waw.frozen? ⟨K, 11, none⟩ = false := frozenAt hbw 11
              have q14_w : waw.cell? ⟨K, 14, none⟩ = some (.int .i64 cA.length) := box_cell hbw 14 rfl
              have y14_w : waw.frozen? ⟨K, 14, none⟩ = false := frozenAt hbw 14
              have q15_w : waw.cell? ⟨K, 15, none⟩ = some (.int .i64 cA.first) := box_cell hbw 15 rfl
              have y15_w : waw.frozen? ⟨K, 15, none⟩ = false := frozenAt hbw 15
              have q19_w : waw.cell? ⟨K, 19, none⟩ = some (vC.vb) := box_cell hbw 19 rfl
              have y19_w : waw.frozen? ⟨K, 19, none⟩ = false := frozenAt hbw 19
              have HPw := Lib.hid (HHw.out.putW hT (u := .slice (some ⟨gw, 0, none⟩) (n + 1) capw) hfw (cA.word ++ [b]) (by rw [List.length_append, byteCells_snoc, ← HNC.out]; exact how) (by rw [HVw.out]; exact hatw.elim (fun e => .inl e.symm) (fun e => .inr (fun q hq => by have hq : q = gw := Option.some.inj hq; omega))))
              clear how hgw hatw hbw hfw hltw HOw
              rw [← HLE.out] at q14_w
              rw [← HFI.out] at q15_w
              rw [HVB.out] at q19_w
              have HQ := Lib.hid (HPw.out.1.put hT (c' := cD) 14 (.int .i64 (len * 16 + d)) (by rw [HCD.out, HLE.out]; rfl) (by omega) (by rw [HCD.out]; rfl) (fun hb => by rw [HCD.out] at hb ⊢; exact ⟨hb, rfl, rfl⟩) (by rw [HCD.out]; rfl))
              have HDL := Lib.hid (show cD.length = len * 16 + d ∧ cD.first = fst by rw [HCD.out, HLE.out, HFI.out]; exact ⟨rfl, rfl⟩)
              by_cases hmx : 1000000 < (nb : Int) + (len * 16 + d)
              {
                have e1 : cD.digE c.body.length = cD.fail fst 3 := by unfold Cr.digE; rw [← HNB.out, HDL.out.1, HDL.out.2, if_pos hmx]
                have tmx := decide_eq_true hmx
                have E1 := Lib.hid e1
                clear e1
                go_wp2_with fail
                go_big_quiet (fail)
                have HF := Lib.hid (cFail_any hT cD _ fst 3 _ (HQ.out.1.drewN nq))
                rw [← E1.out] at HF
                go_wp2_with fail
                (with_reducible refine (HF.out).mono ?_)
                rintro e w' ⟨rfl, h1, h2⟩
                go_wp2
                go_end0
                rw [E.out]
                exact ⟨rfl, h1, HFC.out.trans (HPw.out.2.trans ((HQ.out.2.drewN nq).trans h2))⟩
              }
              {
                have e1 : cD.digE c.body.length = cD := by unfold Cr.digE; rw [← HNB.out, HDL.out.1, if_neg hmx]
                have E1 := Lib.hid e1
                clear e1
                have tmx := decide_eq_false hmx
                go_wp2_with fail
                go_big_quiet (fail)
                go_wp2
                go_end0
                rw [E.out, E1.out]
                exact ⟨rfl, ⟨_, HQ.out.1.drewN _⟩, HFC.out.trans (HPw.out.2.trans (HQ.out.2.drewN _))⟩
              }
          }
          {
            obtain ⟨g1, g2⟩ := (POSF h0).out
            have t0 : ((n : Int) == 0) = true := by simp; omega
            have E0 := Lib.hid (show cA = { c with first := c.pos, length := 0 } by rw [HCA.out]; unfold Cr.digA; rw [if_pos (by rw [← HN.out]; omega)])
            have p1 := HRD.out.put hT (c' := { c with first := c.pos }) 15 (.int .i64 c.pos) rfl (by omega) rfl (fun hb => ⟨hb, rfl, rfl⟩) rfl
            have p2 := p1.1.put hT (c' := { c with first := c.pos, length := 0 }) 14 (.int .i64 0) rfl (by omega) rfl (fun hb => ⟨hb, rfl, rfl⟩) rfl
            have P1 := Lib.hid p1
            have P2 := Lib.hid p2
            clear h0 POSF HZ p1 p2 h13
            go_enter Tryz.func174, Tryz.ntmps174
            go_upto_region 0 with fail
            refine wp_region_noPanic ?_
            refine wp_region_held_drew (S := (fun X => X = w.drew)) (by kernel_rfl) rfl (fun HS0 => ?_)
            refine wpAnyH_take (i := 0) (v := ?_) rfl (by kernel_rfl) (by kernel_rfl) (by kernel_rfl) (fun _ _ _ h => h) (Or.inl ⟨by kernel_rfl, ?_⟩) HS0 ?_
            rotate_left
            · intro W hW; subst hW; go_simp; try (with_reducible rfl)
            refine wpAnyH_take (i := 1) (v := ?_) rfl (by kernel_rfl) (by kernel_rfl) (by kernel_rfl) (fun _ _ _ h => h) (Or.inl ⟨by kernel_rfl, ?_⟩) HS0 ?_
            rotate_left
            · intro W hW; subst hW; go_simp; try (with_reducible rfl)
            refine wpAnyH_take (i := 2) (v := ?_) rfl (by kernel_rfl) (by kernel_rfl) (by kernel_rfl) (fun _ _ _ h => h) (Or.inl ⟨by kernel_rfl, ?_⟩) HS0 ?_
            rotate_left
            · intro W hW; subst hW; go_simp; try (with_reducible rfl)
            refine wpAnyH_take (i := 3) (v := ?_) rfl (by kernel_rfl) (by kernel_rfl) (by kernel_rfl) (fun _ _ _ h => h) (Or.inl ⟨by kernel_rfl, ?_⟩) HS0 ?_
            rotate_left
            · intro W hW; subst hW; go_simp; try (with_reducible rfl)
            refine wpAnyH_take (i := 4) (v := ?_) rfl (by kernel_rfl) (by kernel_rfl) (by kernel_rfl) (fun _ _ _ h => h) (Or.inl ⟨by kernel_rfl, ?_⟩) HS0 ?_
            rotate_left
            · intro W hW; subst hW; go_simp; try (with_reducible rfl)
            refine wpAnyH_take (i := 5) (v := ?_) rfl (by kernel_rfl) (by kernel_rfl) (by kernel_rfl) (fun _ _ _ h => h) (Or.inl ⟨by kernel_rfl, ?_⟩) HS0 ?_
            rotate_left
            · intro W hW; subst hW; go_simp; try (with_reducible rfl)
            clear HS0
            refine run_oneC (i := 6) (by kernel_rfl) rfl (by kernel_rfl) ?_
            intro KK hK
            go_simp
            (with_reducible refine HT.out.mono ?_)
            rintro e w4 ⟨rfl, rfl⟩
            refine hK.out _ _ rfl ?_
            clear hK KK
            intro HS0
            refine wpAnyH_take (i := 7) (v := ?_) rfl (by kernel_rfl) (by kernel_rfl) (by kernel_rfl) (fun _ _ _ h => h) (Or.inl ⟨by kernel_rfl, ?_⟩) HS0 ?_
            rotate_left
            · intro W hW; subst hW; go_simp; try (with_reducible rfl)
            refine wpAnyH_take (i := 8) (v := ?_) rfl (by kernel_rfl) (by kernel_rfl) (by kernel_rfl) (fun _ _ _ h => h) (Or.inl ⟨by kernel_rfl, ?_⟩) HS0 ?_
            rotate_left
            · intro W hW; subst hW; go_simp; try (with_reducible rfl)
            refine wpAnyH_done (by kernel_rfl) ?_ _
            refine NoPanic.normal ?_
            (try go_simp)
            clear HS0
            go_upto_block 0 with fail
            go_cut [] (fun wc => ∃ v', CrR T ex wc K base cA v' ∧ CrF K w wc)
            case first =>
              cases ht13 : ((b.toNat : Int) == 13)
              all_goals
                go_wp2_with fail
                go_meet
                rw [E0.out]
                exact ⟨_, P2.out.1, ((CrF.refl K w).drew).trans (P1.out.2.trans P2.out.2)⟩
            case rest =>
              obtain ⟨vC, hrC, hfC⟩ := hcut
              have hnC : n = cA.word.length := by rw [HEA.out.1, HN.out]
              obtain ⟨A2, k2, hvC, hnc2, hcm2, hA2⟩ := ownsRow_shape hrC.word
              rw [← hnC] at hvC
              have q11 := hrC.cell 11 (u := vC.vw) rfl
              rw [hvC] at q11
              obtain ⟨B2, kb2, hvb, _, hbm, _⟩ := ownsRow_shape (hrC.body (by rw [HEA.out.2.1]; exact HBG.out))
              obtain ⟨nb, hnb⟩ : ∃ z, z = cA.body.length := ⟨_, rfl⟩
              rw [← hnb] at hvb
              have HNB := Lib.hid (show (nb : Int) = c.body.length by rw [hnb, HEA.out.2.2])
              have hnbl : (nb : Int) ≤ 1000000000 := by rw [HNB.out]; omega
              have HVB := Lib.hid hvb
              have HOw := hrC.word
              rw [← hnC, hvC] at HOw
              have HOw := Lib.hid HOw
              have HHw := Lib.hid hrC
              have HVw := Lib.hid hvC
              have HNC := Lib.hid hnC
              have HFC := Lib.hid hfC
              have hKlt2 := hrC.lt
              have hbw2 := hrC.bw
              unfold maxLen at hcm2 hbm
              obtain ⟨lC1, lC2⟩ := HLA.out
              clear hrC hvC hnC hfC HO hnb hvb k11 z2 k1 z14 z15 b14 b15 b2 hcvw
              obtain ⟨len, hlen2⟩ : ∃ z, z = cA.length := ⟨_, rfl⟩
              obtain ⟨fst, hfst⟩ : ∃ z, z = cA.first := ⟨_, rfl⟩
              rw [← hlen2] at lC1 lC2
              have HLE := Lib.hid hlen2
              have HFI := Lib.hid hfst
              clear hlen2 hfst
              go_wp2_with (at_builtin; go_loud (refine wpList_append_lies _ rfl _ _ 27 rfl base 5 i0 (.int .u8 0) 1 1 Tryz.underlying27 hi hz0 hz1 hz2 rfl (by decide) (.slice A2 n k2) n (Lib.byteCells cA.word) rfl (HOw.out.alloc _) ⟨wc.heap.size, 0, none⟩ 1 1 [.int .u8 (b.toNat : Int)] rfl rfl ?c0 (by simp [Value.oneCell']) (by decide) ?c3 ?c4 ?c5 (wc.heap.size + 1) (by simp) ?_))
              case c0 => have := cell_one_new wc (.int .u8 (b.toNat : Int)) 5; simpa using this
              case c3 => unfold maxLen; omega
              case c4 => omega
              case c5 => have := HHw.out.bw; simp; omega
              intro gw capw waw how hgw hatw hltw
              obtain ⟨hbw, hfw⟩ := HHw.out.boxW hT (by rw [HVw.out]; exact hgw)
              have qww : waw.cell? ⟨K, 11, none⟩ = some (.slice A2 n k2) := (box_cell hbw 11 (u := vC.vw) rfl).trans (by rw [HVw.out])
              have yww : waw.frozen? ⟨K, 11, none⟩ = false := frozenAt hbw 11
              have q14_w : waw.cell? ⟨K, 14, none⟩ = some (.int .i64 cA.length) := box_cell hbw 14 rfl
              have y14_w : waw.frozen? ⟨K, 14, none⟩ = false := frozenAt hbw 14
              have q15_w : waw.cell? ⟨K, 15, none⟩ = some (.int .i64 cA.first) := box_cell hbw 15 rfl
              have y15_w : waw.frozen? ⟨K, 15, none⟩ = false := frozenAt hbw 15
              have q19_w : waw.cell? ⟨K, 19, none⟩ = some (vC.vb) := box_cell hbw 19 rfl
              have y19_w : waw.frozen? ⟨K, 19, none⟩ = false := frozenAt hbw 19
              have HPw := Lib.hid (HHw.out.putW hT (u := .slice (some ⟨gw, 0, none⟩) (n + 1) capw) hfw (cA.word ++ [b]) (by rw [List.length_append, byteCells_snoc, ← HNC.out]; exact how) (by rw [HVw.out]; exact hatw.elim (fun e => .inl e.symm) (fun e => .inr (fun q hq => by have hq : q = gw := Option.some.inj hq; omega))))
              clear how hgw hatw hbw hfw hltw HOw
              rw [← HLE.out] at q14_w
              rw [← HFI.out] at q15_w
              rw [HVB.out] at q19_w
              have HQ := Lib.hid (HPw.out.1.put hT (c' := cD) 14 (.int .i64 (len * 16 + d)) (by rw [HCD.out, HLE.out]; rfl) (by omega) (by rw [HCD.out]; rfl) (fun hb => by rw [HCD.out] at hb ⊢; exact ⟨hb, rfl, rfl⟩) (by rw [HCD.out]; rfl))
              have HDL := Lib.hid (show cD.length = len * 16 + d ∧ cD.first = fst by rw [HCD.out, HLE.out, HFI.out]; exact ⟨rfl, rfl⟩)
              by_cases hmx : 1000000 < (nb : Int) + (len * 16 + d)
              {
                have e1 : cD.digE c.body.length = cD.fail fst 3 := by unfold Cr.digE; rw [← HNB.out, HDL.out.1, HDL.out.2, if_pos hmx]
                have tmx := decide_eq_true hmx
                have E1 := Lib.hid e1
                clear e1
                go_wp2_with fail
                go_big_quiet (fail)
                have HF := Lib.hid (cFail_any hT cD _ fst 3 _ (HQ.out.1.drewN nq))
                rw [← E1.out] at HF
                go_wp2_with fail
                (with_reducible refine (HF.out).mono ?_)
                rintro e w' ⟨rfl, h1, h2⟩
                go_wp2
                go_end0
                rw [E.out]
                exact ⟨rfl, h1, HFC.out.trans (HPw.out.2.trans ((HQ.out.2.drewN nq).trans h2))⟩
              }
              {
                have e1 : cD.digE c.body.length = cD := by unfold Cr.digE; rw [← HNB.out, HDL.out.1, if_neg hmx]
                have E1 := Lib.hid e1
                clear e1
                have tmx := decide_eq_false hmx
                go_wp2_with fail
                go_big_quiet (fail)
                go_wp2
                go_end0
                rw [E.out, E1.out]
                exact ⟨rfl, ⟨_, HQ.out.1.drewN _⟩, HFC.out.trans (HPw.out.2.trans (HQ.out.2.drewN _))⟩
              }
          }
        }
      }
    }
  }
end
end Go.Proofs.YthfloagpmmohkaaGreatDoor
