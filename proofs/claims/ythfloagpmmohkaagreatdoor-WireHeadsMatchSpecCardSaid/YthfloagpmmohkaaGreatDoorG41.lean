import Derived.Test.YthfloagpmmohkaaGreatDoorG40
/- wire.Print and wire.Read of the small message. Printed by wip/gen_core.py. -/
namespace Go.Proofs.YthfloagpmmohkaaGreatDoor
open Go Go.RowKit Go.Proofs

theorem infoCS : (Tryz.prog.info? 9).map (fun i => (i.zero, i.size, i.bytes)) = some (some (.string ⟨#[]⟩), 1, 16) := by kernel_rfl
/-- "Content-Length: 2" -/
def smC : List UInt8 := [67, 111, 110, 116, 101, 110, 116, 45, 76, 101, 110, 103, 116, 104, 58, 32, 50]
set_option maxHeartbeats 4000000 in
set_option maxRecDepth 100000 in
theorem print_small (w : World) (htab : Lib.TabBelow Tryz.prog w.heap.size w "internal/strconv.uint64pow10" .u64 Lib.pow10Tab) : Calls Tryz.prog 17 #[smV] w fun e w' => e = .returned (.tuple #[tx smallT, .int .i64 0]) ∧ Below w.heap.size w w' := by
  obtain ⟨i0, hi, hz0, hz1, hz2⟩ := info_parts infoCS
  have HCM := Lib.hid checkMessage_small
  have HT := Lib.hid htab
  have HLN := Lib.hid lines_small
  have HB := Lib.hid (fun o => (Below.refl w.heap.size w).alloc (Nat.le_refl _) o)
  have HN := Lib.hid (SmB.new w)
  have HBR := Lib.hid (fun W => bare_any 200 W)
  have hbr : Cr.bare 200 = false := by decide
  rw [hbr] at HBR
  have HBR := Lib.hid HBR.out
  have HI2 := Lib.hid (fun W => show Calls Tryz.prog 58 #[.int .i64 2] W (fun e w' => e = .returned (.string ⟨(Lib.decDigits 2).toArray⟩) ∧ w' = W) from Tryz.strconv_Itoa_small 2 (by decide) W)
  have h2 : (Lib.decDigits 2).toArray = #[50] := by decide +kernel
  rw [h2] at HI2
  have HI2 := Lib.hid HI2.out
  clear htab hbr h2
  unfold smV at *
  go_enter Tryz.func17, Tryz.ntmps17
  go_wp2_with fail
  (with_reducible refine (HCM.out _).mono ?_)
  rintro e w2 ⟨rfl, hb2⟩
  have HB2 := Lib.hid ((HB.out _).trans (hb2.mono (by simp)))
  have hn2 := HN.out.on hb2 (by simp)
  have HN2 := Lib.hid hn2
  have hs2 : w.heap.size < w2.heap.size := Nat.lt_of_lt_of_le (by simp) hb2.size
  obtain ⟨k0, k1, k2, k3, k4, k5, k6⟩ := hn2.cells
  clear hb2 hn2 HB HN
  go_wp2_with fail
  (with_reducible refine (HLN.out w2 ?_).mono ?_)
  · exact Lib.TabBelow.on (fun W hW => HT.out W (HB2.out.trans (hW.mono (by omega)))) (Below.refl _ _)
  rintro e w3 ⟨hb3, g, rfl, hg, hc3⟩
  have HB3 := Lib.hid (HB2.out.trans (hb3.mono (by omega)))
  have hn3 := HN2.out.on hb3 hs2
  have HN3 := Lib.hid hn3
  have hs3 : w.heap.size < w3.heap.size := Nat.lt_of_lt_of_le hs2 hb3.size
  have HC3 := Lib.hid hc3
  have hg3 : g < w3.heap.size := heap_lt hc3
  clear k0 k1 k2 k3 k4 k5 k6
  obtain ⟨k0, k1, k2, k3, k4, k5, k6⟩ := hn3.cells
  have HO3 := Lib.hid (show w3.ownsRow w2.heap.size 9 1 (.slice (some ⟨g, 0, none⟩) 1 1) 1 [tx smL] from ⟨rfl, .inr ⟨g, 1, #[tx smL], rfl, hg, hc3, by omega, by unfold maxLen; omega, by simp, rfl⟩⟩)
  clear hb3 hn3 hc3
  go_wp2_with fail
  (with_reducible refine (HBR.out _).mono ?_)
  rintro e w4 ⟨rfl, rfl⟩
  go_wp2_with fail
  (with_reducible refine (HI2.out _).mono ?_)
  rintro e w4 ⟨rfl, rfl⟩
  go_wp2_with (at_builtin; go_loud (refine wpList_append_lies _ rfl _ _ 30 rfl w2.heap.size 9 i0 (.string ⟨#[]⟩) 1 16 Tryz.underlying30 hi hz0 hz1 hz2 rfl (by decide) (.slice (some ⟨g, 0, none⟩) 1 1) 1 [tx smL] rfl (HO3.out.alloc _) ⟨w4.heap.size, 0, none⟩ 1 1 [.string (⟨#[67, 111, 110, 116, 101, 110, 116, 45, 76, 101, 110, 103, 116, 104, 58, 32]⟩ ++ ⟨#[50]⟩)] rfl rfl ?c0 (by simp [Value.oneCell']) (by decide) ?c3 ?c4 ?c5 (w4.heap.size + 1) (by simp) ?_))
  case c0 => have := cell_one_new w4 (.string (⟨#[67, 111, 110, 116, 101, 110, 116, 45, 76, 101, 110, 103, 116, 104, 58, 32]⟩ ++ ⟨#[50]⟩)) 9; simpa using this
  case c3 => unfold maxLen; omega
  case c4 => omega
  case c5 => have := (heap_lt HC3.out); simp; omega
  intro g5 cap5 w5 ho5 hg5 hat5 hlt5
  have hf5 : Fr (fun i => i = g) w4 w5 := (((Fr.refl (fun i => some i = (Value.slice (some ⟨g, 0, none⟩) 1 1).ownBlock) w4).alloc _).trans (Fr.of_grown hg5) (fun _ _ h => h)).mono (fun i _ e => by have e : some i = some g := e; exact Option.some.inj e)
  have hn5 : SmB w5 w.heap.size := (hf5.block w.heap.size hs3 (by omega)).trans HN3.out
  have HB5 := Lib.hid (HB3.out.trans (hf5.below (B := w.heap.size) (by omega) (fun j hj e => by omega)))
  have HN5 := Lib.hid hn5
  have hs5 : w.heap.size < w5.heap.size := Nat.lt_of_lt_of_le hs3 hf5.size
  have hE5 : (⟨#[67, 111, 110, 116, 101, 110, 116, 45, 76, 101, 110, 103, 116, 104, 58, 32]⟩ : ByteArray) ++ ⟨#[50]⟩ = ⟨smC.toArray⟩ := by decide +kernel
  rw [hE5] at ho5
  have hcl : ∀ (j : Nat) (t : List UInt8), [smL, smC][j]? = some t → w5.cell? ⟨g5, 0 + j, none⟩ = some (tx t) := fun j t ht => by
    rw [Nat.zero_add]
    have h9 := ho5.cells (g := g5) rfl j (tx t) (by
      rcases j with _ | _ | j
      · cases ht; rfl
      · cases ht; rfl
      · cases ht)
    rwa [Addr.add_mid, Nat.zero_add] at h9
  have HLG := Lib.hid (containsLong_any g5 0 cap5 [smL, smC] w5 hcl (by decide))
  have hcap : 2 ≤ cap5 := by
    rcases ho5.2 with ⟨hv, h0⟩ | ⟨g', cap, cur, hv, hb0, hh, h1, h2, h3, h4⟩
    · cases h0
    · simp only [Value.slice.injEq] at hv
      omega
  have hany : [smL, smC].any (fun t => decide (8000 < t.length)) = false := by decide +kernel
  rw [hany, show [smL, smC].length = 2 from rfl] at HLG
  have HLG := Lib.hid HLG.out
  have HJ := Lib.hid (fun W (hW : Below w5.heap.size w5 W) => Tryz.strings_Join g5 0 cap5 [⟨smL.toArray⟩, ⟨smC.toArray⟩] ⟨#[13, 10]⟩ W (fun j x hx => by
    have := hcl j x.data.toList (by
      rcases j with _ | _ | j
      · cases hx; rfl
      · cases hx; rfl
      · cases hx)
    exact (hW.cell (p := ⟨g5, 0 + j, none⟩) hlt5).trans this) (Nat.lt_of_lt_of_le hlt5 hW.size) (by decide) hcap (by decide +kernel))
  have hjo : (Lib.join (([⟨smL.toArray⟩, ⟨smC.toArray⟩] : List ByteArray).map (·.data.toList)) (⟨#[13, 10]⟩ : ByteArray).data.toList).toArray = #[72, 84, 84, 80, 47, 49, 46, 49, 32, 50, 48, 48, 32, 79, 75, 13, 10, 67, 111, 110, 116, 101, 110, 116, 45, 76, 101, 110, 103, 116, 104, 58, 32, 50] := by decide +kernel
  rw [hjo, show ([⟨smL.toArray⟩, ⟨smC.toArray⟩] : List ByteArray).length = 2 from rfl] at HJ
  have HJ := Lib.hid HJ.out
  clear ho5 hg5 hat5 hf5 hn5 hcl hany hjo k0 k1 k2 k3 k4 k5 k6 HO3 hE5
  go_wp2_with fail
  (with_reducible refine (HLG.out).mono ?_)
  rintro e w6 ⟨rfl, rfl⟩
  go_upto_region 9 with fail
  refine wp_region_noPanic ?_
  refine wp_region_held_drew (S := (fun X => Below w5.heap.size w5 X)) (by kernel_rfl) (Below.refl _ w5).drew (fun HS0 => ?_)
  refine wpAnyH_take (i := 0) (v := ?_) rfl (by kernel_rfl) (by kernel_rfl) (by kernel_rfl) (fun _ _ _ h => h) (Or.inl ⟨by kernel_rfl, ?_⟩) HS0 ?_
  rotate_left
  · intro W hW; obtain ⟨hW0, hW1, hW2, hW3, hW4, hW5, hW6⟩ := (HN5.out.on hW hs5).cells; go_simp; try (with_reducible rfl)
  refine wpAnyH_take (i := 4) (v := ?_) rfl (by kernel_rfl) (by kernel_rfl) (by kernel_rfl) (fun _ _ _ h => h) (Or.inl ⟨by kernel_rfl, ?_⟩) HS0 ?_
  rotate_left
  · intro W hW; obtain ⟨hW0, hW1, hW2, hW3, hW4, hW5, hW6⟩ := (HN5.out.on hW hs5).cells; go_simp; try (with_reducible rfl)
  refine wpAnyH_take (i := 5) (v := ?_) rfl (by kernel_rfl) (by kernel_rfl) (by kernel_rfl) (fun _ _ _ h => h) (Or.inl ⟨by kernel_rfl, ?_⟩) HS0 ?_
  rotate_left
  · intro W hW; obtain ⟨hW0, hW1, hW2, hW3, hW4, hW5, hW6⟩ := (HN5.out.on hW hs5).cells; go_simp; try (with_reducible rfl)
  clear HS0
  refine run_oneC (i := 1) (by kernel_rfl) rfl (by kernel_rfl) ?_
  intro KK hKK
  go_simp
  (with_reducible refine (HJ.out _ (Below.refl _ w5).drew).mono ?_)
  rintro e w7 ⟨rfl, hb7⟩
  have hb17 : Below w5.heap.size w5 w7 := (Below.refl _ w5).drew.trans hb7
  refine hKK.out _ _ hb17 ?_
  clear hKK KK
  intro HS0
  refine wpAnyH_take (i := 2) (v := ?_) rfl (by kernel_rfl) (by kernel_rfl) (by kernel_rfl) (fun _ _ _ h => h) (Or.inl ⟨by kernel_rfl, ?_⟩) HS0 ?_
  rotate_left
  · intro W hW; go_simp; try (with_reducible rfl)
  refine wpAnyH_take (i := 3) (v := ?_) rfl (by kernel_rfl) (by kernel_rfl) (by kernel_rfl) (fun _ _ _ h => h) (Or.inl ⟨by kernel_rfl, ?_⟩) HS0 ?_
  rotate_left
  · intro W hW; go_simp; try (with_reducible rfl)
  refine wpAnyH_take (i := 6) (v := ?_) rfl (by kernel_rfl) (by kernel_rfl) (by kernel_rfl) (fun _ _ _ h => h) (Or.inl ⟨by kernel_rfl, ?_⟩) HS0 ?_
  rotate_left
  · intro W hW; go_simp; try (with_reducible rfl)
  refine wpAnyH_take (i := 7) (v := ?_) rfl (by kernel_rfl) (by kernel_rfl) (by kernel_rfl) (fun _ _ _ h => h) (Or.inl ⟨by kernel_rfl, ?_⟩) HS0 ?_
  rotate_left
  · intro W hW; go_simp; try (with_reducible rfl)
  refine wpAnyH_take (i := 8) (v := ?_) rfl (by kernel_rfl) (by kernel_rfl) (by kernel_rfl) (fun _ _ _ h => h) (Or.inl ⟨by kernel_rfl, ?_⟩) HS0 ?_
  rotate_left
  · intro W hW; go_simp; try (with_reducible rfl)
  refine wpAnyH_done (by kernel_rfl) ?_ _
  refine NoPanic.normal ?_
  (try go_simp)
  have HB7 := Lib.hid (HB5.out.trans (hb17.mono (by omega)))
  clear HS0 hb17 hb7
  have hE : (⟨#[72, 84, 84, 80, 47, 49, 46, 49, 32, 50, 48, 48, 32, 79, 75, 13, 10, 67, 111, 110, 116, 101, 110, 116, 45, 76, 101, 110, 103, 116, 104, 58, 32, 50]⟩ : ByteArray) ++ ⟨#[13, 10]⟩ ++ ⟨#[13, 10]⟩ ++ ⟨#[97, 98]⟩ = ⟨smallT.toArray⟩ := by decide +kernel
  rw [hE]
  go_wp2
  refine bodyPost_ret (v := .tuple #[tx smallT, .int .i64 0]) (by simp [results, Tryz.results17, go_sem]) rfl ?_
  exact ⟨rfl, HB7.out⟩
end Go.Proofs.YthfloagpmmohkaaGreatDoor

/- the statement's small(): a small message is written and read. -/
namespace Go.Proofs.YthfloagpmmohkaaGreatDoor
open Go Go.RowKit Go.Proofs

theorem OffR.cell {w : World} {base : Nat} {e : TypeId} {k n : Nat} {g o c : Nat} {xs : List Value} (h : OffR w base e k (.slice (some ⟨g, o, none⟩) n c) n xs) (j : Nat) (u : Value) (hj : xs[j]? = some u) : w.cell? ⟨g, o + j, none⟩ = some u := by
  rcases h.2 with ⟨hv, _⟩ | ⟨g', o', cap, cur, hv, hb, hh, h1, h2, h3, h4⟩
  · cases hv
  · simp only [Value.slice.injEq, Option.some.injEq, Addr.mk.injEq, and_true, true_and] at hv
    obtain ⟨⟨rfl, rfl⟩, rfl⟩ := hv
    rw [cellsAt hh, ← Array.getElem?_toList]
    rw [← h4] at hj
    have hlt : j < n * k := by
      have := (List.getElem?_eq_some_iff.1 hj).1
      simp only [List.length_take] at this
      omega
    rw [List.getElem?_take_of_lt hlt, List.getElem?_drop] at hj
    exact hj
theorem buildSm (W : World) : (Instr.build 38 #[(3, .int .i64 200), (4, .string ⟨#[79, 75]⟩), (6, .string ⟨#[97, 98]⟩)]).run Tryz.prog W = .ok (.agg #[.bool false, .string ⟨#[]⟩, .string ⟨#[]⟩, .int .i64 200, .string ⟨#[79, 75]⟩, .slice none 0 0, .string ⟨#[97, 98]⟩]) W := by kernel_rfl
theorem read_one (s : List UInt8) (r : Bool) (w : World) (hs : s.length ≤ 4000000) (C : Cr) (hC : ({ req := r } : Cr).run s = C) (h0 : C.no = 0) (h1 : C.begun = false) (m : Msg) (hd : C.done = [m]) : Calls Tryz.prog 21 #[tx s, .bool r] w fun e w' => ∃ g o c, 1 ≤ c ∧ c ≤ maxLen ∧ e = .returned (.tuple #[.slice (some ⟨g, o, none⟩) 1 c, .int .i64 0, .int .i64 0]) ∧ Below w.heap.size w w' ∧ w'.cell? ⟨g, o + 6, none⟩ = some (tx m.body) := by
  refine (read_any s r w (by omega)).mono ?_
  rintro e w' ⟨hb, V, rfl, hm⟩
  rw [hC] at hm
  have hres : C.res.2 = 0 := by
    unfold Cr.res
    rw [if_neg (fun q => by rw [h1] at q; cases q.2)]
    exact h0
  obtain ⟨xs, hx, hO, _⟩ := hm hs hres
  have hV : RdE s r V = .returned (.tuple #[V, .int .i64 0, .int .i64 0]) := by
    unfold RdE
    rw [if_neg (by omega), hC, if_pos hres]
  rw [hd] at hO hx
  have hx1 : ∃ x, xs = [x] ∧ x.m = m := by
    rcases xs with _ | ⟨x, _ | ⟨y, l⟩⟩
    · cases hx
    · exact ⟨x, rfl, (List.cons.inj hx).1⟩
    · simp at hx
  obtain ⟨x, rfl, hxb⟩ := hx1
  obtain ⟨A, c, hv, h1, h2, h3, _⟩ := hO.shape2
  have hA : ∃ g o, A = some ⟨g, o, none⟩ := by
    rcases hO.2 with ⟨hv0, h0⟩ | ⟨g, o, cap, cur, hv0, _⟩
    · cases h0
    · rw [hv] at hv0
      simp only [Value.slice.injEq] at hv0
      exact ⟨g, o, hv0.1⟩
  obtain ⟨g, o, rfl⟩ := hA
  rw [hv] at hO
  have hcell := hO.cell 6 (tx m.body) (by
    show some (tx x.m.body) = _
    rw [hxb])
  exact ⟨g, o, c, h1, h2, by rw [hV, hv]; rfl, hb, hcell⟩
theorem read_small (w : World) : Calls Tryz.prog 21 #[tx smallT, .bool false] w fun e w' => ∃ g o c, 1 ≤ c ∧ c ≤ maxLen ∧ e = .returned (.tuple #[.slice (some ⟨g, o, none⟩) 1 c, .int .i64 0, .int .i64 0]) ∧ Below w.heap.size w w' ∧ w'.cell? ⟨g, o + 6, none⟩ = some (.string ⟨#[97, 98]⟩) := by
  obtain ⟨r1, r2, r3⟩ := small_run
  exact read_one smallT false w (by decide) _ rfl r2 r3 _ r1
set_option maxHeartbeats 4000000 in
set_option maxRecDepth 100000 in
theorem small_ok (w : World) (htab : Lib.TabBelow Tryz.prog w.heap.size w "internal/strconv.uint64pow10" .u64 Lib.pow10Tab) : Calls Tryz.prog 14 #[] w fun e w' => e = .returned (.bool true) ∧ Below w.heap.size w w' := by
  have HP := Lib.hid (print_small w htab)
  have HR := Lib.hid read_small
  have hbs := buildSm
  clear htab
  unfold smV at *
  go_enter Tryz.func14, Tryz.ntmps14
  go_wp2_with fail
  (with_reducible refine (HP.out).mono ?_)
  rintro e w2 ⟨rfl, hb2⟩
  have HB2 := Lib.hid hb2
  clear hb2
  go_wp2_with fail
  (with_reducible refine (HR.out _).mono ?_)
  rintro e w3 ⟨g, o, c, h1, h2, rfl, hb3, hc⟩
  have HB3 := Lib.hid (HB2.out.trans (hb3.mono HB2.out.size))
  have ht : decide (smallT.toArray = #[72, 84, 84, 80, 47, 49, 46, 49, 32, 50, 48, 48, 32, 79, 75, 13, 10, 67, 111, 110, 116, 101, 110, 116, 45, 76, 101, 110, 103, 116, 104, 58, 32, 50, 13, 10, 13, 10, 97, 98]) = true := by decide +kernel
  have ht2 : ((⟨smallT.toArray⟩ : ByteArray) == ⟨#[72, 84, 84, 80, 47, 49, 46, 49, 32, 50, 48, 48, 32, 79, 75, 13, 10, 67, 111, 110, 116, 101, 110, 116, 45, 76, 101, 110, 103, 116, 104, 58, 32, 50, 13, 10, 13, 10, 97, 98]⟩) = true := by decide +kernel
  unfold maxLen at h2
  clear hb3
  go_wp2
  go_ret
  exact ⟨rfl, HB3.out⟩
end Go.Proofs.YthfloagpmmohkaaGreatDoor
