import Derived.Test.YthfloagpmmohkaaGreatDoorAll
import Derived.Test.YthfloagpmmohkaaGreatDoorG30
import Derived.Shelf.Strconv.Itoa4
import Derived.Test.YthfloagpmmohkaaGreatDoorCoreB
/- wire.Print of the small message. Printed by wip/gen_core.py. -/
namespace Go.Proofs.YthfloagpmmohkaaGreatDoor
open Go Go.RowKit Go.Proofs

/-- the small message -/
def smV : Value := .agg #[.bool false, .string ⟨#[]⟩, .string ⟨#[]⟩, .int .i64 200, .string ⟨#[79, 75]⟩, .slice none 0 0, .string ⟨#[97, 98]⟩]
def SmB (W : World) (g : Nat) : Prop := W.heap[g]? = some (.cells #[.bool false, .string ⟨#[]⟩, .string ⟨#[]⟩, .int .i64 200, .string ⟨#[79, 75]⟩, .slice none 0 0, .string ⟨#[97, 98]⟩] 38 (0, 0))
theorem SmB.new (w : World) : SmB (w.alloc (.cells #[.bool false, .string ⟨#[]⟩, .string ⟨#[]⟩, .int .i64 200, .string ⟨#[79, 75]⟩, .slice none 0 0, .string ⟨#[97, 98]⟩] 38 (0, 0))) w.heap.size := Array.getElem?_push_size
theorem SmB.on {W W' : World} {g B : Nat} (h : SmB W g) (hb : Below B W W') (hg : g < B) : SmB W' g := (hb.block g hg).trans h
theorem SmB.cells {W : World} {g : Nat} (h : SmB W g) : W.cell? ⟨g, 0, none⟩ = some (.bool false) ∧ W.cell? ⟨g, 1, none⟩ = some (.string ⟨#[]⟩) ∧ W.cell? ⟨g, 2, none⟩ = some (.string ⟨#[]⟩) ∧ W.cell? ⟨g, 3, none⟩ = some (.int .i64 200) ∧ W.cell? ⟨g, 4, none⟩ = some (.string ⟨#[79, 75]⟩) ∧ W.cell? ⟨g, 5, none⟩ = some (.slice none 0 0) ∧ W.cell? ⟨g, 6, none⟩ = some (.string ⟨#[97, 98]⟩) :=
  ⟨cellsAt h 0, cellsAt h 1, cellsAt h 2, cellsAt h 3, cellsAt h 4, cellsAt h 5, cellsAt h 6⟩
set_option maxHeartbeats 2000000 in
set_option maxRecDepth 100000 in
theorem checkFirst_small (w : World) : Calls Tryz.prog 48 #[smV] w fun e w' => e = .returned (.int .i64 0) ∧ Below w.heap.size w w' := by
  have HA := Lib.hid (fun W => all_inReason [79, 75] W (by decide))
  have HB := Lib.hid (fun o => (Below.refl w.heap.size w).alloc (Nat.le_refl _) o)
  unfold smV
  go_enter Tryz.func48, Tryz.ntmps48
  go_wp2_with fail
  (with_reducible refine (HA.out _).mono ?_)
  rintro e w2 ⟨rfl, rfl⟩
  have ha : [79, 75].all Cr.inRsn = true := by decide
  rw [ha]
  go_wp2
  go_ret
  exact ⟨rfl, HB.out _⟩
set_option maxHeartbeats 2000000 in
set_option maxRecDepth 100000 in
theorem checkMessage_small (w : World) : Calls Tryz.prog 15 #[smV] w fun e w' => e = .returned (.int .i64 0) ∧ Below w.heap.size w w' := by
  have HA := Lib.hid checkFirst_small
  have HH := Lib.hid checkHead_nil
  have HC := Lib.hid (fun W => containsPr_nil (.func (.func 50) #[] #[]) W)
  have HBR := Lib.hid (fun W => bare_any 200 W)
  have HB := Lib.hid (fun o => (Below.refl w.heap.size w).alloc (Nat.le_refl _) o)
  have HN := Lib.hid (SmB.new w)
  have hbr : Cr.bare 200 = false := by decide
  rw [hbr] at HBR
  have HBR := Lib.hid HBR.out
  unfold smV at *
  go_enter Tryz.func15, Tryz.ntmps15
  go_wp2_with fail
  (with_reducible refine (HA.out _).mono ?_)
  rintro e w2 ⟨rfl, hb2⟩
  have HB2 := Lib.hid ((HB.out _).trans (hb2.mono (by simp)))
  obtain ⟨k0, k1, k2, k3, k4, k5, k6⟩ := (HN.out.on hb2 (by simp)).cells
  clear hb2
  go_wp2_with fail
  (with_reducible refine (HH.out _).mono ?_)
  rintro e w3 ⟨rfl, rfl⟩
  go_wp2_with fail
  (with_reducible refine (HC.out _).mono ?_)
  rintro e w3 ⟨rfl, rfl⟩
  go_wp2_with fail
  (with_reducible refine (HBR.out _).mono ?_)
  rintro e w3 ⟨rfl, rfl⟩
  go_wp2
  go_ret
  exact ⟨rfl, HB2.out⟩
/-- the first line of the small message -/
def smL : List UInt8 := [72, 84, 84, 80, 47, 49, 46, 49, 32, 50, 48, 48, 32, 79, 75]
set_option maxHeartbeats 2000000 in
set_option maxRecDepth 100000 in
theorem lines_small (w : World) (htab : Lib.TabBelow Tryz.prog w.heap.size w "internal/strconv.uint64pow10" .u64 Lib.pow10Tab) : Calls Tryz.prog 57 #[smV] w fun e w' => Below w.heap.size w w' ∧ ∃ g, e = .returned (.slice (some ⟨g, 0, none⟩) 1 1) ∧ w.heap.size ≤ g ∧ w'.heap[g]? = some (.cells #[tx smL] 9 (0, 0)) := by
  have HB := Lib.hid (fun o => (Below.refl w.heap.size w).alloc (Nat.le_refl _) o)
  have HN := Lib.hid (SmB.new w)
  have h200 : (Lib.itoa 200).toArray = #[50, 48, 48] := by decide +kernel
  have HIT := Lib.hid (fun W (hW : Below w.heap.size w W) => Tryz.strconv_Itoa 200 (by decide) (by decide) W (htab.on hW).here)
  rw [h200] at HIT
  have HIT := Lib.hid HIT.out
  clear htab h200
  unfold smV at *
  go_enter Tryz.func57, Tryz.ntmps57
  go_upto_region 3 with fail
  obtain ⟨w1, hw1⟩ : ∃ x, x = w.alloc (.cells #[.bool false, .string ⟨#[]⟩, .string ⟨#[]⟩, .int .i64 200, .string ⟨#[79, 75]⟩, .slice none 0 0, .string ⟨#[97, 98]⟩] 38) := ⟨_, rfl⟩
  have hb1 : Below w.heap.size w w1 := by rw [hw1]; exact HB.out _
  have hs1 : w.heap.size < w1.heap.size := by rw [hw1]; simp
  have hn1 : SmB w1 w.heap.size := by rw [hw1]; exact HN.out
  have HN1 := Lib.hid hn1
  have HB1 := Lib.hid hb1
  rw [← hw1]
  clear hw1 HN HB hn1 hb1
  refine wp_region_noPanic ?_
  refine wp_region_held_drew (S := (fun X => Below w1.heap.size w1 X)) (by kernel_rfl) (Below.refl _ w1).drew (fun HS0 => ?_)
  refine wpAnyH_take (i := 0) (v := ?_) rfl (by kernel_rfl) (by kernel_rfl) (by kernel_rfl) (fun _ _ _ h => h) (Or.inl ⟨by kernel_rfl, ?_⟩) HS0 ?_
  rotate_left
  · intro W hW; obtain ⟨hW0, hW1, hW2, hW3, hW4, hW5, hW6⟩ := (HN1.out.on hW hs1).cells; go_simp; try (with_reducible rfl)
  refine wpAnyH_take (i := 1) (v := ?_) rfl (by kernel_rfl) (by kernel_rfl) (by kernel_rfl) (fun _ _ _ h => h) (Or.inl ⟨by kernel_rfl, ?_⟩) HS0 ?_
  rotate_left
  · intro W hW; obtain ⟨hW0, hW1, hW2, hW3, hW4, hW5, hW6⟩ := (HN1.out.on hW hs1).cells; go_simp; try (with_reducible rfl)
  refine wpAnyH_take (i := 5) (v := ?_) rfl (by kernel_rfl) (by kernel_rfl) (by kernel_rfl) (fun _ _ _ h => h) (Or.inl ⟨by kernel_rfl, ?_⟩) HS0 ?_
  rotate_left
  · intro W hW; obtain ⟨hW0, hW1, hW2, hW3, hW4, hW5, hW6⟩ := (HN1.out.on hW hs1).cells; go_simp; try (with_reducible rfl)
  refine wpAnyH_take (i := 6) (v := ?_) rfl (by kernel_rfl) (by kernel_rfl) (by kernel_rfl) (fun _ _ _ h => h) (Or.inl ⟨by kernel_rfl, ?_⟩) HS0 ?_
  rotate_left
  · intro W hW; obtain ⟨hW0, hW1, hW2, hW3, hW4, hW5, hW6⟩ := (HN1.out.on hW hs1).cells; go_simp; try (with_reducible rfl)
  clear HS0
  refine run_oneC (i := 2) (by kernel_rfl) rfl (by kernel_rfl) ?_
  intro KK hKK
  go_simp
  (with_reducible refine (HIT.out _ HB1.out.drew).mono ?_)
  rintro e w4 ⟨rfl, k, os, hw4⟩
  have hb14 : Below w1.heap.size w1 w4 := by rw [hw4]; exact (Below.refl _ w1).drew.trans (show Below w1.drew.heap.size w1.drew _ from Lib.below_grow _ _ (Nat.le_refl _) k os)
  clear hw4
  refine hKK.out _ _ hb14 ?_
  clear hKK KK
  intro HS0
  refine wpAnyH_take (i := 3) (v := ?_) rfl (by kernel_rfl) (by kernel_rfl) (by kernel_rfl) (fun _ _ _ h => h) (Or.inl ⟨by kernel_rfl, ?_⟩) HS0 ?_
  rotate_left
  · intro W hW; go_simp; try (with_reducible rfl)
  refine wpAnyH_take (i := 4) (v := ?_) rfl (by kernel_rfl) (by kernel_rfl) (by kernel_rfl) (fun _ _ _ h => h) (Or.inl ⟨by kernel_rfl, ?_⟩) HS0 ?_
  rotate_left
  · intro W hW; go_simp; try (with_reducible rfl)
  refine wpAnyH_take (i := 7) (v := ?_) rfl (by kernel_rfl) (by kernel_rfl) (by kernel_rfl) (fun _ _ _ h => h) (Or.inl ⟨by kernel_rfl, ?_⟩) HS0 ?_
  rotate_left
  · intro W hW; go_simp; try (with_reducible rfl)
  refine wpAnyH_take (i := 8) (v := ?_) rfl (by kernel_rfl) (by kernel_rfl) (by kernel_rfl) (fun _ _ _ h => h) (Or.inl ⟨by kernel_rfl, ?_⟩) HS0 ?_
  rotate_left
  · intro W hW; go_simp; try (with_reducible rfl)
  refine wpAnyH_done (by kernel_rfl) ?_ _
  refine NoPanic.normal ?_
  (try go_simp)
  obtain ⟨k0, k1, k2, k3, k4, k5, k6⟩ := (HN1.out.on hb14 hs1).cells
  have HB4 := Lib.hid (HB1.out.trans (hb14.mono HB1.out.size))
  have hlt4 : w.heap.size < w4.heap.size := Nat.lt_of_lt_of_le hs1 hb14.size
  clear HS0 hb14
  have hE : (⟨#[72, 84, 84, 80, 47, 49, 46, 49, 32]⟩ : ByteArray) ++ ⟨#[50, 48, 48]⟩ ++ ⟨#[32]⟩ ++ ⟨#[79, 75]⟩ = ⟨smL.toArray⟩ := by decide +kernel
  go_wp2
  rw [hE]
  obtain ⟨w5, hw5⟩ : ∃ x, x = w4.alloc (.cells #[tx smL] 9) := ⟨_, rfl⟩
  have HC5 := Lib.hid (show w5.heap[w4.heap.size]? = some (.cells #[tx smL] 9 (0, 0)) by rw [hw5]; exact Array.getElem?_push_size)
  have HB5 := Lib.hid (show Below w.heap.size w w5 by rw [hw5]; exact HB4.out.alloc (by omega) _)
  rw [← hw5]
  clear hw5
  go_loopw [4, 31] (fun o i wr => wr = w5 ∧ o = .slice (some ⟨w4.heap.size, 0, none⟩) 1 1 ∧ i = .int .i64 0) (fun _ _ _ => 0)
  case atStart => exact ⟨rfl, rfl, rfl⟩
  case round =>
    obtain ⟨rfl, rfl, rfl⟩ := hrel
    go_wp2
    go_ret
    exact ⟨HB5.out, _, rfl, by omega, HC5.out⟩
end Go.Proofs.YthfloagpmmohkaaGreatDoor

/- wire's check of the lines' lengths. -/
namespace Go.Proofs.YthfloagpmmohkaaGreatDoor
open Go Go.RowKit Go.Proofs

set_option maxHeartbeats 1000000 in
set_option maxRecDepth 100000 in
theorem long_any (l : List UInt8) (w : World) : Calls Tryz.prog 60 #[tx l] w fun e w' => e = .returned (.bool (decide (8000 < l.length))) ∧ w = w' := by
  go_enter Tryz.func60, Tryz.ntmps60
  go_wp2
  all_goals go_ret
  all_goals (refine ⟨?_, rfl⟩)
  all_goals (try rfl)
  all_goals (congr 2; simp; omega)
set_option maxHeartbeats 1000000 in
set_option maxRecDepth 100000 in
theorem indexLong_any (b o c : Nat) (ls : List (List UInt8)) (w : World) (hc : ∀ j t, ls[j]? = some t → w.cell? ⟨b, o + j, none⟩ = some (tx t)) (hn : ls.length ≤ 140737488355328) :
    Calls Tryz.prog 101 #[.slice (some ⟨b, o, none⟩) ls.length c, .func (.func 60) #[] #[]] w fun e w' => (∃ z : Int, e = .returned (.int .i64 z) ∧ decide (0 ≤ z) = ls.any (fun t => decide (8000 < t.length))) ∧ w = w' := by
  obtain ⟨n, hnn⟩ : ∃ n, n = ls.length := ⟨_, rfl⟩
  rw [← hnn] at hn ⊢
  have HN := Lib.hid hnn
  have HC := Lib.hid hc
  clear hnn hc
  go_enter Tryz.func101, Tryz.ntmps101
  go_wp2
  go_loopw [4, 5, 8] (fun _ _ i wr => wr = w ∧ ∃ k : Nat, k ≤ n ∧ i = .int .i64 k ∧ (ls.take k).any (fun t => decide (8000 < t.length)) = false) (fun _ _ i _ => n - (intOf i).toNat)
  case atStart => exact ⟨rfl, 0, Nat.zero_le _, rfl, rfl⟩
  case round =>
    obtain ⟨rfl, k, hk, rfl, ha⟩ := hrel
    have HA := Lib.hid ha
    clear ha
    by_cases hlt : k < n
    · obtain ⟨x, hx⟩ : ∃ x, ls[k]? = some x := ⟨_, List.getElem?_eq_getElem (by rw [← HN.out]; exact hlt)⟩
      have hcx := HC.out k x hx
      have HX := Lib.hid hx
      clear hx
      have HL := Lib.hid (long_any x wr)
      cases hp : decide (8000 < x.length) with
      | false =>
        have HLX := HL.out
        rw [hp] at HLX
        have HLX := Lib.hid HLX
        have HS := Lib.hid (show (ls.take (k + 1)).any (fun t => decide (8000 < t.length)) = false by
          rw [List.take_add_one, HX.out, List.any_append, HA.out]
          show (false || ([x].any (fun t => decide (8000 < t.length)))) = false
          rw [List.any_cons, hp]
          rfl)
        clear hp HL
        go_wp2_with fail
        (with_reducible refine (HLX.out).mono ?_)
        rintro e w2 ⟨rfl, rfl⟩
        go_wp2
        go_roundw
        case rel => exact ⟨by trivial, k + 1, by omega, by go_num, HS.out⟩
        case measure => simp [intOf]; omega
      | true =>
        have HLX := HL.out
        rw [hp] at HLX
        have HLX := Lib.hid HLX
        have E := Lib.hid (show ls.any (fun t => decide (8000 < t.length)) = true from List.any_eq_true.2 ⟨x, List.mem_of_getElem? HX.out, hp⟩)
        clear hp HL
        go_wp2_with fail
        (with_reducible refine (HLX.out).mono ?_)
        rintro e w2 ⟨rfl, rfl⟩
        go_wp2
        go_ret
        exact ⟨⟨_, rfl, by rw [E.out]; exact decide_eq_true (by omega)⟩, rfl⟩
    · have E := Lib.hid (show ls.any (fun t => decide (8000 < t.length)) = false by have := HA.out; rwa [List.take_of_length_le (by rw [← HN.out]; omega)] at this)
      go_wp2
      go_ret
      exact ⟨⟨_, rfl, by rw [E.out]; rfl⟩, rfl⟩
set_option maxHeartbeats 1000000 in
set_option maxRecDepth 100000 in
theorem containsLong_any (b o c : Nat) (ls : List (List UInt8)) (w : World) (hc : ∀ j t, ls[j]? = some t → w.cell? ⟨b, o + j, none⟩ = some (tx t)) (hn : ls.length ≤ 140737488355328) :
    Calls Tryz.prog 59 #[.slice (some ⟨b, o, none⟩) ls.length c, .func (.func 60) #[] #[]] w fun e w' => e = .returned (.bool (ls.any (fun t => decide (8000 < t.length)))) ∧ w = w' := by
  have HI := Lib.hid (indexLong_any b o c ls w hc hn)
  clear hc
  obtain ⟨n, hnn⟩ : ∃ n, n = ls.length := ⟨_, rfl⟩
  rw [← hnn] at HI ⊢
  clear hnn hn
  have HI := Lib.hid HI.out
  go_enter Tryz.func59, Tryz.ntmps59
  go_wp2_with fail
  (with_reducible refine (HI.out).mono ?_)
  rintro e w2 ⟨⟨z, rfl, hz⟩, rfl⟩
  have HZ := Lib.hid hz
  clear hz
  go_wp2
  all_goals go_ret
  all_goals (rw [← HZ.out]; refine ⟨?_, rfl⟩)
  all_goals (try rfl)
  all_goals (congr 2; simp)
end Go.Proofs.YthfloagpmmohkaaGreatDoor
