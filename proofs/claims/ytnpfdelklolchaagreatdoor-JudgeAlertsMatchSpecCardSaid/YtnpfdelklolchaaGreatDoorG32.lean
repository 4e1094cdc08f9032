import Derived.Test.YtnpfdelklolchaaGreatDoorG31
import Derived.Test.YtnpfdelklolchaaGreatDoorG0
import Derived.Test.YtnpfdelklolchaaGreatDoorAlMath
import Derived.Test.YtnpfdelklolchaaGreatDoorG20
import Derived.Test.YtnpfdelklolchaaGreatDoorShelf
import Derived.Test.YtnpfdelklolchaaGreatDoorProg
import Derived.Handy
import Derived.WalkSpells
import Derived.WalkLawsBesides
import Derived.Deep.QuietTactic
import Derived.BigQuiet
import Derived.Laws.BytesString
import Derived.Lib.ItoaLen
import Derived.Lib.SlBytesRow
import Derived.Lib.BufferRead
/- judge.Burn. Printed by gen_jburn.py out of jburn.txt. -/
namespace Go.Proofs.YtnpfdelklolchaaGreatDoor
open Go Go.RowKit Go.Proofs

/-- what Burn reckons, and what it tells -/
def brnOk (g o bad all : Int) : Prop := OkO g o ∧ 0 ≤ bad ∧ bad ≤ all ∧ all ≤ 1000000000000
instance (g o bad all : Int) : Decidable (brnOk g o bad all) := by unfold brnOk; exact inferInstance
def brnQ (g o bad all : Int) : Rat := if all = 0 then 0 else ((bad * o : Int) : Rat) / ((all * (o - g) : Int) : Rat)
def brnC (g o bad all : Int) : Int := if brnOk g o bad all then rtC (brnQ g o bad all) else 9
def brnT (g o bad all : Int) : List UInt8 × List UInt8 := if brnOk g o bad all then rtT (brnQ g o bad all) else ([], [])
def BrnPost (g o bad all : Int) (w : World) (e : Ending) (w' : World) : Prop := e = .returned (.tuple #[ratOf (brnT g o bad all), .int .i64 (brnC g o bad all)]) ∧ Below w.heap.size w w'
set_option maxHeartbeats 8000000 in
set_option maxRecDepth 100000 in
theorem jBurn_any (g o bad all : Int) (w : World) (htab : Tab w.heap.size w) :
    Calls Tryz.prog 17 #[.agg #[.int .i64 g, .int .i64 o], .int .i64 bad, .int .i64 all] w (BrnPost g o bad all w) := by
  unfold BrnPost
  have HTAB := Lib.hid htab
  obtain ⟨W0, hW0⟩ : ∃ W0, W0 = (w.alloc (.cells #[.int .i64 g, .int .i64 o] 48)).alloc (.cells #[.string ⟨#[]⟩, .string ⟨#[]⟩] 24) := ⟨_, rfl⟩
  have hb0 : Below w.heap.size w W0 := by rw [hW0]; exact two_on _ _
  have HB := Lib.hid hb0
  have HT := Lib.hid (show Txt2 W0 (w.heap.size + 1) ⟨#[]⟩ ⟨#[]⟩ by rw [hW0]; exact alloc_at _ _ _ (by simp))
  have HO := Lib.hid (show W0.heap[w.heap.size]? = some (.cells #[.int .i64 g, .int .i64 o] 48 (0, 0)) by rw [hW0, Below.heap_alloc _ _ _ (by simp)]; exact alloc_at _ _ _ rfl)
  have HJ := Lib.hid (jObj_any g o W0)
  by_cases hok : OkO g o
  · have hc0 : cdO g o = 0 := if_pos hok
    rw [hc0] at HJ
    have hok' := hok
    unfold OkO at hok'
    obtain ⟨g0, g1, g2⟩ := hok'
    by_cases hr : 0 ≤ bad ∧ bad ≤ all ∧ all ≤ 1000000000000
    · obtain ⟨r0, r1, r2⟩ := hr
      have hn0 : ¬ bad < 0 := by omega
      have hn1 : ¬ all < bad := by omega
      have hn2 : ¬ (1000000000000 : Int) < all := by omega
      have hbk : brnOk g o bad all := ⟨hok, r0, r1, r2⟩
      have HV := Lib.hid (show brnC g o bad all = rtC (brnQ g o bad all) ∧ brnT g o bad all = rtT (brnQ g o bad all) from ⟨if_pos hbk, if_pos hbk⟩)
      by_cases h0 : all = 0
      · have h0z : (all == 0) = true := by rw [beq_iff_eq]; exact h0
        have hq : brnQ g o bad all = ((0 : Int) : Rat) := by unfold brnQ; rw [if_pos h0]; rfl
        have HQ := Lib.hid hq
        have h00 := h0
        clear hc0 hb0 htab hq hbk h0 hok
        go_enter Tryz.func17, Tryz.ntmps17
        go_wp2_with fail
        rw [← hW0]
        clear hW0
        (with_reducible refine (HJ.out).mono ?_)
        rintro e w1 ⟨rfl, hb1⟩
        have HB1 := Lib.hid (below_next HB.out hb1)
        have HT1 := Lib.hid (HT.out.on hb1)
        have HW2 := Lib.hid (jWholeQ 0 w1 (by omega) (by omega))
        clear hb1
        go_wp2_with fail
        (with_reducible refine (HW2.out).mono ?_)
        rintro e w4 ⟨v4, rfl, hv4, hb4⟩
        have HBQ := Lib.hid (below_next HB1.out hb4)
        have HTQ := Lib.hid (HT1.out.on hb4)
        have hrt := (by have h9 := jRatioQ 1 v4 _ w4 (by omega) hv4 ((HTAB.out.on HBQ.out).mono HBQ.out.size); rw [← HQ.out] at h9; exact h9)
        obtain ⟨S1, S2, hS⟩ : ∃ S1 S2 : ByteArray, ratOf (rtT (brnQ g o bad all)) = .agg #[.string S1, .string S2] := ⟨_, _, rfl⟩
        obtain ⟨rc, hrc⟩ : ∃ z, z = rtC (brnQ g o bad all) := ⟨_, rfl⟩
        rw [hS, ← hrc] at hrt
        have HRT := Lib.hid hrt
        have HS := Lib.hid hS
        have HRC := Lib.hid hrc
        clear hrt hS hrc
        go_wp2_with fail
        (with_reducible refine (HRT.out).mono ?_)
        rintro e w5 ⟨rfl, hb5⟩
        have HB5 := Lib.hid (below_next HBQ.out hb5)
        have ht5 := HTQ.out.on hb5
        obtain ⟨W9, hW9⟩ : ∃ W, W = (w5.setCell ⟨w.heap.size + 1, 0, none⟩ (.string S1)).setCell ⟨w.heap.size + 1, 1, none⟩ (.string S2) := ⟨_, rfl⟩
        have HT9 := Lib.hid (show Txt2 W9 (w.heap.size + 1) S1 S2 by rw [hW9]; exact txt2_set ht5)
        have HB9 := Lib.hid (show Below w.heap.size w W9 by rw [hW9]; exact txt2_below HB5.out (by omega) _ _)
        obtain ⟨s0, s1, s2, s3, s4⟩ := ht5.facts
        clear hb5 ht5
        go_wp2_with fail
        rw [← hW9]
        clear hW9 s0 s1 s2 s3 s4
        obtain ⟨q0, q1, q2, q3, q4⟩ := HT9.out.facts
        refine bodyPost_ret (v := .tuple #[.agg #[.string S1, .string S2], .int .i64 rc]) (by simp [results, Tryz.results17, go_sem, q0, q1, q4]) rfl ⟨by rw [HV.out.1, HV.out.2, HS.out, ← HRC.out], HB9.out⟩
      · have h0z : (all == 0) = false := by rw [beq_eq_false_iff_ne]; exact h0
        have hm1 : 0 ≤ bad * o ∧ bad * o ≤ 1000000000000000000 := ⟨Int.mul_nonneg r0 (by omega), by have : bad * o ≤ 1000000000000 * 1000000 := Int.mul_le_mul (by omega) (by omega) (by omega) (by omega); omega⟩
        have hm2 : 0 < all * (o - g) ∧ all * (o - g) ≤ 1000000000000000000 := ⟨Int.mul_pos (by omega) (by omega), by have : all * (o - g) ≤ 1000000000000 * 1000000 := Int.mul_le_mul (by omega) (by omega) (by omega) (by omega); omega⟩
        have hq : brnQ g o bad all = ((bad * o : Int) : Rat) / ((all * (o - g) : Int) : Rat) := by unfold brnQ; rw [if_neg h0]
        obtain ⟨x, hx⟩ : ∃ x, x = bad * o := ⟨_, rfl⟩
        obtain ⟨y, hy⟩ : ∃ y, y = all * (o - g) := ⟨_, rfl⟩
        rw [← hx] at hm1 hq
        rw [← hy] at hm2 hq
        have hw1 : IntKind.i64.wrap (bad * o) = x := by rw [← hx]; exact IntWalk.i64_in _ (by omega)
        have hw0 : IntKind.i64.wrap (o - g) = o - g := IntWalk.i64_in _ (by omega)
        have hw2 : IntKind.i64.wrap (all * (o - g)) = y := by rw [← hy]; exact IntWalk.i64_in _ (by omega)
        have HNE := Lib.hid (show (y : Rat) ≠ 0 from fun h => by
          have h5 : y = 0 := by exact_mod_cast h
          omega)
        have HQ := Lib.hid hq
        obtain ⟨k0, k1⟩ : W0.cell? ⟨w.heap.size, 0, none⟩ = some (.int .i64 g) ∧ W0.cell? ⟨w.heap.size, 1, none⟩ = some (.int .i64 o) := ⟨by rw [cellsAt HO.out]; rfl, by rw [cellsAt HO.out]; rfl⟩
        clear hc0 hb0 htab hq hbk hx hy hok k0 k1
        go_enter Tryz.func17, Tryz.ntmps17
        go_wp2_with fail
        rw [← hW0]
        clear hW0
        (with_reducible refine (HJ.out).mono ?_)
        rintro e w1 ⟨rfl, hb1⟩
        have HB1 := Lib.hid (below_next HB.out hb1)
        have HT1 := Lib.hid (HT.out.on hb1)
        have ho1 := (hb1.block _ (heap_lt HO.out)).trans HO.out
        have HO1 := Lib.hid ho1
        have k0 : w1.cell? ⟨w.heap.size, 0, none⟩ = some (.int .i64 g) := by rw [cellsAt ho1]; rfl
        have k1 : w1.cell? ⟨w.heap.size, 1, none⟩ = some (.int .i64 o) := by rw [cellsAt ho1]; rfl
        obtain ⟨S1, S2, hS⟩ : ∃ S1 S2 : ByteArray, ratOf (rtT (brnQ g o bad all)) = .agg #[.string S1, .string S2] := ⟨_, _, rfl⟩
        obtain ⟨rc, hrc⟩ : ∃ z, z = rtC (brnQ g o bad all) := ⟨_, rfl⟩
        have HS := Lib.hid hS
        have HRC := Lib.hid hrc
        have HRQ := Lib.hid (show ∀ X v, JQ X v ((x : Rat) / (y : Rat)) (1 + 1) → Below w1.heap.size w1 X → Calls Tryz.prog 34 #[v] X fun e w' => e = .returned (.tuple #[.agg #[.string S1, .string S2], .int .i64 rc]) ∧ Below X.heap.size X w' from fun X v hv hX => by
          have h9 := jRatioQ (1 + 1) v _ X (by omega) hv ((HTAB.out.on (below_next HB1.out hX)).mono (below_next HB1.out hX).size)
          rw [← HQ.out, hS, ← hrc] at h9
          exact h9)
        have HKS8 := Lib.hid (show ∀ X, Below w1.heap.size w1 X → (fun X => Below w.heap.size w X ∧ X.cell? ⟨w.heap.size, 0, none⟩ = some (.int .i64 g) ∧ X.cell? ⟨w.heap.size, 1, none⟩ = some (.int .i64 o)) X from fun X hX => by
          have hox := (hX.block _ (heap_lt HO1.out)).trans HO1.out
          exact ⟨below_next HB1.out hX, by rw [cellsAt hox]; rfl, by rw [cellsAt hox]; rfl⟩)
        clear hb1 ho1 hS hrc
        go_wp2_with fail
        skip
        {
 refine wp_region_noPanic ?_
 refine wp_region_held_drew (S := (fun X => Below w.heap.size w X ∧ X.cell? ⟨w.heap.size, 0, none⟩ = some (.int .i64 g) ∧ X.cell? ⟨w.heap.size, 1, none⟩ = some (.int .i64 o))) (by kernel_rfl) (HKS8.out _ (Below.refl _ w1).drew) (fun HS0 => ?_)
 have hbx0 : Below w1.heap.size w1 w1.drew := (Below.refl _ _).drew
 obtain ⟨Xx0, hXx0⟩ : ∃ X, X = w1.drew := ⟨_, rfl⟩
 rw [← hXx0] at hbx0 HS0 ⊢
 have HBx0 := Lib.hid hbx0
 clear hbx0 hXx0
 refine wpAnyH_take (i := 0) (v := ?_) rfl (by kernel_rfl) (by kernel_rfl) (by kernel_rfl) (fun _ _ _ h => h) (Or.inl ⟨by kernel_rfl, ?_⟩) HS0 ?_
 rotate_left
 · intro W hW; (try dsimp only at hW); go_simp; try (with_reducible rfl)
 refine wpAnyH_take (i := 1) (v := ?_) rfl (by kernel_rfl) (by kernel_rfl) (by kernel_rfl) (fun _ _ _ h => h) (Or.inl ⟨by kernel_rfl, ?_⟩) HS0 ?_
 rotate_left
 · intro W hW; (try dsimp only at hW); go_simp; try (with_reducible rfl)
 refine wpAnyH_take (i := 2) (v := ?_) rfl (by kernel_rfl) (by kernel_rfl) (by kernel_rfl) (fun _ _ _ h => h) (Or.inl ⟨by kernel_rfl, ?_⟩) HS0 ?_
 rotate_left
 · intro W hW; (try dsimp only at hW); go_simp; try (with_reducible rfl)
 refine wpAnyH_take (i := 3) (v := ?_) rfl (by kernel_rfl) (by kernel_rfl) (by kernel_rfl) (fun _ _ _ h => h) (Or.inl ⟨by kernel_rfl, ?_⟩) HS0 ?_
 rotate_left
 · intro W hW; (try dsimp only at hW); go_simp; try (with_reducible rfl)
 refine wpAnyH_take (i := 5) (v := ?_) rfl (by kernel_rfl) (by kernel_rfl) (by kernel_rfl) (fun _ _ _ h => h) (Or.inl ⟨by kernel_rfl, ?_⟩) HS0 ?_
 rotate_left
 · intro W hW; (try dsimp only at hW); go_simp; try (with_reducible rfl)
 refine wpAnyH_take (i := 6) (v := ?_) rfl (by kernel_rfl) (by kernel_rfl) (by kernel_rfl) (fun _ _ _ h => h) (Or.inl ⟨by kernel_rfl, ?_⟩) HS0 ?_
 rotate_left
 · intro W hW; (try dsimp only at hW); go_simp; try (with_reducible rfl)
 refine wpAnyH_take (i := 7) (v := ?_) rfl (by kernel_rfl) (by kernel_rfl) (by kernel_rfl) (fun _ _ _ h => h) (Or.inl ⟨by kernel_rfl, ?_⟩) HS0 ?_
 rotate_left
 · intro W hW; (try dsimp only at hW); go_simp; try (with_reducible rfl)
 refine wpAnyH_take (i := 8) (v := ?_) rfl (by kernel_rfl) (by kernel_rfl) (by kernel_rfl) (fun _ _ _ h => h) (Or.inl ⟨by kernel_rfl, ?_⟩) HS0 ?_
 rotate_left
 · intro W hW; (try dsimp only at hW); go_simp; try (with_reducible rfl)
 refine wpAnyH_take (i := 9) (v := ?_) rfl (by kernel_rfl) (by kernel_rfl) (by kernel_rfl) (fun _ _ _ h => h) (Or.inl ⟨by kernel_rfl, ?_⟩) HS0 ?_
 rotate_left
 · intro W hW; (try dsimp only at hW); go_simp; try (with_reducible rfl)
 refine wpAnyH_take (i := 10) (v := ?_) rfl (by kernel_rfl) (by kernel_rfl) (by kernel_rfl) (fun _ _ _ h => h) (Or.inl ⟨by kernel_rfl, ?_⟩) HS0 ?_
 rotate_left
 · intro W hW; (try dsimp only at hW); go_simp; try (with_reducible rfl)
 refine wpAnyH_take (i := 11) (v := ?_) rfl (by kernel_rfl) (by kernel_rfl) (by kernel_rfl) (fun _ _ _ h => h) (Or.inl ⟨by kernel_rfl, ?_⟩) HS0 ?_
 rotate_left
 · intro W hW; (try dsimp only at hW); go_simp; try (with_reducible rfl)
 clear HS0
 refine run_one (i := 4) (by kernel_rfl) rfl rfl ?_
 intro K hK
 go_simp
 (with_reducible refine (jWholeQ x Xx0 (by omega) (by omega)).mono ?_)
 rintro e Xx1 ⟨v1, rfl, hvx1, hbx1⟩
 have HBx1 := Lib.hid (below_next (HBx0.out) hbx1)
 refine hK.out _ _ (HKS8.out _ HBx1.out) ?_
 clear hK K
 intro _
 obtain ⟨bp, Ap, cp, lp, Dp, dp, mp, rfl⟩ := hvx1.shape
 refine run_one (i := 12) (by kernel_rfl) rfl rfl ?_
 intro K hK
 go_simp
 (with_reducible refine (jWholeQ y Xx1 (by omega) (by omega)).mono ?_)
 rintro e Xx2 ⟨v2, rfl, hvx2, hbx2⟩
 have HBx2 := Lib.hid (below_next (HBx1.out) hbx2)
 refine hK.out _ _ (HKS8.out _ HBx2.out) ?_
 clear hK K
 intro _
 obtain ⟨bq, Aq, cq, lq, Dq, dq, mq, rfl⟩ := hvx2.shape
 refine run_one (i := 13) (by kernel_rfl) rfl rfl ?_
 intro K hK
 go_simp
 (with_reducible refine (jOverQ 1 1 _ _ _ _ Xx2 (by omega) (by omega) ((hvx1).on hbx2) (hvx2) HNE.out).mono ?_)
 rintro e Xx3 ⟨v3, rfl, hvx3, hbx3⟩
 have HBx3 := Lib.hid (below_next (HBx2.out) hbx3)
 refine hK.out _ _ (HKS8.out _ HBx3.out) ?_
 clear hK K
 intro _
 obtain ⟨br, Ar, cr, lr, Dr, dr, mr, rfl⟩ := hvx3.shape
 refine run_one (i := 14) (by kernel_rfl) rfl rfl ?_
 intro K hK
 go_simp
 (with_reducible refine (HRQ.out Xx3 _ (hvx3) (HBx3.out)).mono ?_)
 rintro e Xx4 ⟨rfl, hbx4⟩
 have HBx4 := Lib.hid (below_next (HBx3.out) hbx4)
 refine hK.out _ _ (HKS8.out _ HBx4.out) ?_
 clear hK K
 intro _
 have HS0 := HKS8.out _ (HBx4.out)
 refine wpAnyH_take (i := 15) (v := ?_) rfl (by kernel_rfl) (by kernel_rfl) (by kernel_rfl) (fun _ _ _ h => h) (Or.inl ⟨by kernel_rfl, ?_⟩) HS0 ?_
 rotate_left
 · intro W hW; (try dsimp only at hW); go_simp; try (with_reducible rfl)
 clear HS0
 have HS0 := HKS8.out _ (HBx4.out)
 refine wpAnyH_take (i := 16) (v := ?_) rfl (by kernel_rfl) (by kernel_rfl) (by kernel_rfl) (fun _ _ _ h => h) (Or.inl ⟨by kernel_rfl, ?_⟩) HS0 ?_
 rotate_left
 · intro W hW; (try dsimp only at hW); go_simp; try (with_reducible rfl)
 clear HS0
 have hb8 := below_next HB1.out (HBx4.out)
 have ht8 := HT1.out.on (HBx4.out)
 have HSX := Lib.hid (HKS8.out _ (HBx4.out))
 obtain ⟨W9, hW9⟩ : ∃ W, W = (Xx4.setCell ⟨w.heap.size + 1, 0, none⟩ (.string S1)).setCell ⟨w.heap.size + 1, 1, none⟩ (.string S2) := ⟨_, rfl⟩
 have HSY : (fun X => Below w.heap.size w X ∧ X.cell? ⟨w.heap.size, 0, none⟩ = some (.int .i64 g) ∧ X.cell? ⟨w.heap.size, 1, none⟩ = some (.int .i64 o)) W9 := by
   obtain ⟨a0, a1, a2⟩ := HSX.out
   rw [hW9]
   exact ⟨txt2_below a0 (by omega) _ _, (World.cell?_of_block (txt2_far (B := w.heap.size + 1) (B' := w.heap.size) (by omega))).trans a1, (World.cell?_of_block (txt2_far (B := w.heap.size + 1) (B' := w.heap.size) (by omega))).trans a2⟩
 have HT9 := Lib.hid (show Txt2 W9 (w.heap.size + 1) S1 S2 by rw [hW9]; exact txt2_set ht8)
 have HB9 := Lib.hid (show Below w.heap.size w W9 by rw [hW9]; exact txt2_below hb8 (by omega) _ _)
 obtain ⟨s0, s1, s2, s3, s4⟩ := ht8.facts
 clear hb8 HSX ht8
 refine run_one (i := 17) (by kernel_rfl) rfl rfl ?_
 intro K hK
 go_simp
 rw [← hW9]
 refine hK.out _ _ HSY ?_
 clear hK K hW9 HSY s0 s1 s2 s3 s4
 intro HS0
 refine wpAnyH_take (i := 18) (v := ?_) rfl (by kernel_rfl) (by kernel_rfl) (by kernel_rfl) (fun _ _ _ h => h) (Or.inl ⟨by kernel_rfl, ?_⟩) HS0 ?_
 rotate_left
 · intro W hW; (try dsimp only at hW); go_simp; try (with_reducible rfl)
 refine wpAnyH_done (by kernel_rfl) ?_ _
 refine NoPanic.normal ?_
 (try go_simp)
 clear HS0
 obtain ⟨q0, q1, q2, q3, q4⟩ := HT9.out.facts
 go_wp2_with fail
 refine bodyPost_ret (v := .tuple #[.agg #[.string S1, .string S2], .int .i64 rc]) (by simp [results, Tryz.results17, go_sem, q0, q1, q4]) rfl ⟨by rw [HV.out.1, HV.out.2, HS.out, ← HRC.out], HB9.out⟩
        }
    · have HV := Lib.hid (show brnC g o bad all = 9 ∧ brnT g o bad all = ([], []) from ⟨if_neg (fun h => hr h.2), if_neg (fun h => hr h.2)⟩)
      by_cases h1 : bad < 0
      · clear hc0 hb0 htab
        go_enter Tryz.func17, Tryz.ntmps17
        go_wp2_with fail
        rw [← hW0]
        clear hW0
        (with_reducible refine (HJ.out).mono ?_)
        rintro e w1 ⟨rfl, hb1⟩
        have HB1 := Lib.hid (below_next HB.out hb1)
        obtain ⟨s0, s1, s2, s3, s4⟩ := (HT.out.on hb1).facts
        have HFN := Lib.hid (fun a b => txt2_below (B := w.heap.size + 1) HB1.out (by omega) a b)
        clear hb1
        go_wp2_with fail
        refine bodyPost_ret (v := .tuple #[.agg #[.string ⟨#[]⟩, .string ⟨#[]⟩], .int .i64 9]) (by simp [results, Tryz.results17, go_sem, s0, s1, s4]) rfl ⟨by rw [HV.out.1, HV.out.2]; rfl, HFN.out _ _⟩
      · by_cases h2 : all < bad
        · clear hc0 hb0 htab
          go_enter Tryz.func17, Tryz.ntmps17
          go_wp2_with fail
          rw [← hW0]
          clear hW0
          (with_reducible refine (HJ.out).mono ?_)
          rintro e w1 ⟨rfl, hb1⟩
          have HB1 := Lib.hid (below_next HB.out hb1)
          obtain ⟨s0, s1, s2, s3, s4⟩ := (HT.out.on hb1).facts
          have HFN := Lib.hid (fun a b => txt2_below (B := w.heap.size + 1) HB1.out (by omega) a b)
          clear hb1
          go_wp2_with fail
          refine bodyPost_ret (v := .tuple #[.agg #[.string ⟨#[]⟩, .string ⟨#[]⟩], .int .i64 9]) (by simp [results, Tryz.results17, go_sem, s0, s1, s4]) rfl ⟨by rw [HV.out.1, HV.out.2]; rfl, HFN.out _ _⟩
        · have h3 : (1000000000000 : Int) < all := by omega
          clear hc0 hb0 htab
          go_enter Tryz.func17, Tryz.ntmps17
          go_wp2_with fail
          rw [← hW0]
          clear hW0
          (with_reducible refine (HJ.out).mono ?_)
          rintro e w1 ⟨rfl, hb1⟩
          have HB1 := Lib.hid (below_next HB.out hb1)
          obtain ⟨s0, s1, s2, s3, s4⟩ := (HT.out.on hb1).facts
          have HFN := Lib.hid (fun a b => txt2_below (B := w.heap.size + 1) HB1.out (by omega) a b)
          clear hb1
          go_wp2_with fail
          refine bodyPost_ret (v := .tuple #[.agg #[.string ⟨#[]⟩, .string ⟨#[]⟩], .int .i64 9]) (by simp [results, Tryz.results17, go_sem, s0, s1, s4]) rfl ⟨by rw [HV.out.1, HV.out.2]; rfl, HFN.out _ _⟩
  · have hc0 : cdO g o = 9 := if_neg hok
    rw [hc0] at HJ
    have HV := Lib.hid (show brnC g o bad all = 9 ∧ brnT g o bad all = ([], []) from ⟨if_neg (fun h => hok h.1), if_neg (fun h => hok h.1)⟩)
    clear hc0 hb0 htab
    go_enter Tryz.func17, Tryz.ntmps17
    go_wp2_with fail
    rw [← hW0]
    clear hW0
    (with_reducible refine (HJ.out).mono ?_)
    rintro e w1 ⟨rfl, hb1⟩
    have HB1 := Lib.hid (below_next HB.out hb1)
    obtain ⟨s0, s1, s2, s3, s4⟩ := (HT.out.on hb1).facts
    have HFN := Lib.hid (fun a b => txt2_below (B := w.heap.size + 1) HB1.out (by omega) a b)
    clear hb1
    go_wp2_with fail
    refine bodyPost_ret (v := .tuple #[.agg #[.string ⟨#[]⟩, .string ⟨#[]⟩], .int .i64 9]) (by simp [results, Tryz.results17, go_sem, s0, s1, s4]) rfl ⟨by rw [HV.out.1, HV.out.2]; rfl, HFN.out _ _⟩
end Go.Proofs.YtnpfdelklolchaaGreatDoor

/- Alerts: the reference's comparison of a burn is the program's. -/
namespace Go.Proofs.YtnpfdelklolchaaGreatDoor
open Go Go.RowKit Go.Proofs

theorem alOrd_ge {a b : Rat} : (0 ≤ ordQ a b) ↔ ¬ a < b := by
  unfold ordQ
  by_cases h : a < b
  · rw [if_pos h]; constructor
    · intro h2; exact absurd h2 (by decide)
    · intro h2; exact absurd h h2
  · rw [if_neg h]; constructor
    · intro _; exact h
    · intro _; split <;> decide
theorem brn_ord {g o bad all num den : Int} (h : OkO g o) (r0 : 0 ≤ bad) (r1 : bad ≤ all) (n0 : 0 ≤ num) (d0 : 1 ≤ den) : decide (0 ≤ ordQ (brnQ g o bad all) (mkRat num den.toNat)) = brnV g o bad all num den := by
  obtain ⟨h1, h2, h3⟩ := h
  have hd : (0 : Rat) < ((den : Int) : Rat) := by exact_mod_cast (by omega : (0 : Int) < den)
  have e1 : mkRat num den.toNat = (num : Rat) / (den : Rat) := by
    rw [Rat.mkRat_eq_div]
    have : ((den.toNat : Int) : Rat) = (den : Rat) := by rw [Int.toNat_of_nonneg (by omega)]
    have e : ((den.toNat : Nat) : Rat) = ((den.toNat : Int) : Rat) := rfl
    rw [e, this]
  unfold brnV brnQ
  rw [e1]
  by_cases h0 : all = 0
  · rw [if_pos h0, if_pos h0, decide_eq_decide, alOrd_ge, Rat.lt_div_iff hd, Rat.zero_mul]
    constructor
    · intro h4
      have : ¬ (0 : Int) < num := fun h5 => h4 (by exact_mod_cast h5)
      omega
    · intro h4; subst h4; exact Rat.lt_irrefl
  · rw [if_neg h0, if_neg h0, decide_eq_decide, alOrd_ge]
    have hp : (0 : Rat) < ((all * (o - g) : Int) : Rat) := by exact_mod_cast Int.mul_pos (by omega) (by omega)
    rw [Rat.div_lt_iff hp]
    have e2 : (num : Rat) / (den : Rat) * ((all * (o - g) : Int) : Rat) = ((all * (o - g) * num : Int) : Rat) / (den : Rat) := by
      simp only [Rat.intCast_mul, Rat.div_def]; grind
    rw [e2, Rat.lt_div_iff hd, ← Rat.intCast_mul, Rat.intCast_lt_intCast]
    omega
theorem srt_pair {l : List Al} {n : Nat} (hn : l.length = n) (h : SrtOn ltA l 0 n) : l.Pairwise ltA := by
  rw [List.pairwise_iff_getElem]
  intro i j hi hj hij
  exact h i j _ _ (Nat.zero_le _) hij (by omega) (List.getElem?_eq_getElem hi) (List.getElem?_eq_getElem hj)
/-- two sorted permutations are one -/
theorem srt_one {l l1 l2 : List Al} {n : Nat} (hn : l.length = n) (p1 : l.Perm l1) (p2 : l.Perm l2) (s1 : SrtOn ltA l1 0 n) (s2 : SrtOn ltA l2 0 n) : l1 = l2 :=
  List.Perm.eq_of_pairwise (le := ltA) (fun a b _ _ h1 h2 => by rw [ltA_iff] at h1 h2; omega) (srt_pair (by rw [← p1.length_eq]; exact hn) s1) (srt_pair (by rw [← p2.length_eq]; exact hn) s2) (p1.symm.trans p2)
theorem AlDone.okA {k : Int} {n : Nat} {s : List Al} (h : AlDone k n s) (hk : k ≤ 10) : OkA s := by
  refine ⟨?_, fun x hx => ?_⟩
  · have h1 := h.nd
    rw [List.Nodup, List.pairwise_map] at h1
    exact h1.imp (fun {a b} h2 => by
      unfold DfA
      by_cases e : a.2.1 = b.2.1
      · exact .inr (fun e2 => h2 (by unfold keyA; rw [e, e2]))
      · exact .inl e)
  · have h1 := h.rule x hx
    unfold SmA
    omega
end Go.Proofs.YtnpfdelklolchaaGreatDoor

/- What both Alerts return; boxes of objectives, rules, points. -/
namespace Go.Proofs.YtnpfdelklolchaaGreatDoor
open Go Go.RowKit Go.Proofs

/-- the code of Alerts -/
def codeAl (g o : Int) (l : List Pt) (rs : List Ru) : Int := if OkO g o then codeA l rs else 9
/-- a list of alerts in memory from block B on -/
def RdA (w : World) (B : Nat) (A : Option Addr) (l : List Al) : Prop := (A = none ∧ l = []) ∨ ∃ q, A = some ⟨q, 0, none⟩ ∧ B ≤ q ∧ RowA w q l
def AlPost (g o : Int) (l : List Pt) (rs : List Ru) (w : World) (e : Ending) (w' : World) : Prop :=
  (codeAl g o l rs ≠ 0 ∧ e = .returned (.tuple #[.slice none 0 0, .int .i64 (codeAl g o l rs)]) ∧ Below w.heap.size w w') ∨
  (codeAl g o l rs = 0 ∧ ∃ A cap l', e = .returned (.tuple #[.slice A l'.length cap, .int .i64 0]) ∧ RdA w' w.heap.size A l' ∧ (alRus g o l rs rs.length).Perm l' ∧ SrtOn ltA l' 0 l'.length ∧ Below w.heap.size w w')
theorem codeA_zero {l : List Pt} {rs : List Ru} (h : codeA l rs = 0) : OkPts l ∧ OkRus rs := by
  unfold codeA at h
  by_cases h1 : codeP l ≠ 0
  · rw [if_pos h1] at h; exact absurd h h1
  · rw [if_neg h1] at h
    exact ⟨OkPts.of (by simpa using h1), OkRus.of h⟩
section
variable {w w' : World} {b : Nat}
theorem obj_cells {g o : Int} (h : w.heap[b]? = some (.cells #[.int .i64 g, .int .i64 o] 48 (0, 0))) : w.cell? ⟨b, 0, none⟩ = some (.int .i64 g) ∧ w.cell? ⟨b, 1, none⟩ = some (.int .i64 o) := by
  refine ⟨?_, ?_⟩ <;> (rw [cellsAt h]; rfl)
theorem pt_cells {x y z : Int} (h : w.heap[b]? = some (.cells #[.int .i64 x, .int .i64 y, .int .i64 z] 101 (0, 0))) : w.cell? ⟨b, 0, none⟩ = some (.int .i64 x) := by
  rw [cellsAt h]; rfl
theorem ru_cells {x y z u : Int} (h : w.heap[b]? = some (.cells #[.int .i64 x, .int .i64 y, .int .i64 z, .int .i64 u] 99 (0, 0))) : w.cell? ⟨b, 0, none⟩ = some (.int .i64 x) ∧ w.cell? ⟨b, 1, none⟩ = some (.int .i64 y) ∧ w.cell? ⟨b, 2, none⟩ = some (.int .i64 z) ∧ w.cell? ⟨b, 3, none⟩ = some (.int .i64 u) := by
  refine ⟨?_, ?_, ?_, ?_⟩ <;> (rw [cellsAt h]; rfl)
/-- a box of another type is not the alerts' row -/
theorem OwA.ne {base : Nat} {v : Value} {l : List Al} (h : OwA w base v l) {cs : Array Value} {t : TypeId} {fz : Nat × Nat} (hb : w.heap[b]? = some (.cells cs t fz)) (ht : t ≠ 104) : v.ownBlock ≠ some b := by
  intro e
  rcases h.2 with ⟨rfl, _⟩ | ⟨g, cap, cur, rfl, _, hh, _⟩
  · cases e
  · simp only [Value.ownBlock, Option.some.injEq] at e
    subst e
    rw [hh] at hb
    simp only [Option.some.injEq, Obj.cells.injEq] at hb
    exact ht hb.2.1.symm
theorem cell_three_al (w : World) (x y z : Value) (t : TypeId) : ∀ j u, [x, y, z][j]? = some u → (w.alloc (.cells #[x, y, z] t)).cell? ((⟨w.heap.size, 0, none⟩ : Addr).add j) = some u := by
  intro j u hj
  match j, hj with
  | 0, hj => simp at hj; subst hj; simp [Addr.add]
  | 1, hj => simp at hj; subst hj; simp [Addr.add]
  | 2, hj => simp at hj; subst hj; simp [Addr.add]
theorem grown_keep {v : Value} {o : Obj} (hg : w.grownBy w' v.ownBlock) (hb : w.heap[b]? = some o) (hne : v.ownBlock ≠ some b) : w'.heap[b]? = some o :=
  (hg.block b (heap_lt hb) (fun e => hne e.symm)).trans hb
theorem set_keep {q j : Nat} {u : Value} {o : Obj} (hb : w.heap[b]? = some o) (hne : q ≠ b) : (w.setCell ⟨q, j, none⟩ u).heap[b]? = some o :=
  (((Fr.refl (fun i => i = q) w).setCell (p := ⟨q, j, none⟩) (fun _ => rfl) u).block b (heap_lt hb) (fun e => hne e.symm)).trans hb
end
end Go.Proofs.YtnpfdelklolchaaGreatDoor

/- Ink: what is written is a function of what is to be written. -/
namespace Go.Proofs.YtnpfdelklolchaaGreatDoor
open Go Go.RowKit Go.Proofs Go.Maps

/-- what Int writes -/
def inkInt (n : Int) : List UInt8 := Lib.itoa n ++ [32]
theorem inkInt_length (n : Int) (h0 : -9223372036854775808 ≤ n) (h1 : n ≤ 9223372036854775807) : (inkInt n).length ≤ 22 := by
  have := Lib.itoa_length_le n h0 h1
  simp [inkInt]; omega

/-- block K is an Ink that has written bs -/
def InkAt (w : World) (K base : Nat) (bs : List UInt8) : Prop :=
  K < base ∧ base ≤ w.heap.size ∧ Tab K w ∧ ∃ v, w.heap[K]? = some (.cells #[v] 40 (0, 0)) ∧ w.ownsRow base 5 1 v bs.length (Lib.byteCells bs)
theorem InkAt.fr {may : Nat → Prop} {w w' : World} {K base : Nat} {bs : List UInt8} (h : InkAt w K base bs) (hf : Fr may w w') (hK : ∀ i, i ≤ K → ¬ may i) (hB : ∀ i, base ≤ i → i < w.heap.size → ¬ may i) : InkAt w' K base bs := by
  obtain ⟨h1, h2, h3, v, h4, h5⟩ := h
  exact ⟨h1, Nat.le_trans h2 hf.size, h3.on (hf.below (by omega) (fun i hi => hK i (by omega))), v, (hf.block K (by omega) (hK K (Nat.le_refl _))).trans h4, ownsRow_fr h5 hf (fun i hi => by have := ownsRow_block h5 hi; exact hB i this.1 this.2)⟩

/-- block i is a row of bytes -/
def U8 (w : World) (i : Nat) : Prop := ∃ c fz, w.heap[i]? = some (.cells c 5 fz)
/-- what an Ink's methods leave alone: all but the Ink itself and rows of bytes from 'base' on -/
def InkFr (K base : Nat) (w w' : World) : Prop := Fr (fun i => i = K ∨ (base ≤ i ∧ U8 w i)) w w'
theorem InkFr.refl (K base : Nat) (w : World) : InkFr K base w w := Fr.refl _ _
theorem InkFr.trans {K base : Nat} {w w1 w2 : World} (h1 : InkFr K base w w1) (h2 : InkFr K base w1 w2) : InkFr K base w w2 :=
  ⟨h2.os.trans h1.os, h2.tape.trans h1.tape, h2.output.trans h1.output, Nat.le_trans h1.size h2.size, fun i hi hm => by
    have e1 := h1.block i hi hm
    refine (h2.block i (Nat.lt_of_lt_of_le hi h1.size) ?_).trans e1
    rintro (rfl | ⟨hb, c, fz, hc⟩)
    · exact hm (.inl rfl)
    · exact hm (.inr ⟨hb, c, fz, by rw [← e1]; exact hc⟩)⟩
theorem InkFr.below {K base : Nat} {w w' : World} (h : InkFr K base w w') (hK : K ≤ w.heap.size) (hKb : K ≤ base) : Below K w w' := Fr.below h hK (fun i hi => by omega)
/-- a block that is no row of bytes stays -/
theorem InkFr.keep {K base : Nat} {w w' : World} (h : InkFr K base w w') {i : Nat} {c : Array Value} {t : TypeId} {fz : Nat × Nat} (hi : w.heap[i]? = some (.cells c t fz)) (ht : t ≠ 5) (hK : i ≠ K) : w'.heap[i]? = some (.cells c t fz) := by
  refine (h.block i (heap_lt hi) ?_).trans hi
  rintro (e | ⟨_, c', fz', hc⟩)
  · exact hK e
  · rw [hi] at hc
    simp only [Option.some.injEq, Obj.cells.injEq] at hc
    exact ht hc.2.1
theorem InkFr.alloc {K base : Nat} {w w' : World} (h : InkFr K base w w') (o : Obj) : InkFr K base w (w'.alloc o) := Fr.alloc h o
theorem ownBlock_u8 {w : World} {base n : Nat} {v : Value} {xs : List Value} (h : w.ownsRow base 5 1 v n xs) {i : Nat} (hi : some i = v.ownBlock) : base ≤ i ∧ U8 w i := by
  rcases h.2 with ⟨rfl, _⟩ | ⟨g, cap, cur, rfl, hb, hh, hr⟩
  · cases hi
  · cases hi; exact ⟨hb, cur, (0, 0), hh⟩

theorem Tryz.info8 : (Tryz.prog.info? 5).map (fun i => (i.zero, i.size, i.bytes)) = some (some (.int .u8 0), 1, 1) := by kernel_rfl

set_option maxHeartbeats 1000000 in
set_option maxRecDepth 100000 in
theorem inkInt_any (K base : Nat) (bs : List UInt8) (n : Int) (w : World) (h : InkAt w K base bs) (hl : bs.length < 100000000000) (h0 : -9223372036854775808 ≤ n) (h1 : n ≤ 9223372036854775807) :
    Calls Tryz.prog 54 #[.pointer (some ⟨K, 0, none⟩), .int .i64 n] w fun e w' => e = .returned (.tuple #[]) ∧ InkAt w' K base (bs ++ inkInt n) ∧ InkFr K base w w' := by
  obtain ⟨hKb, hbw, htab, v, hbx, hown⟩ := h
  obtain ⟨i0, hi, hz0, hz1, hz2⟩ := info_parts Tryz.info8
  have hc : w.cell? ⟨K, 0, none⟩ = some v := by rw [cellsAt hbx]; rfl
  have HA := Lib.hid (Tryz.strconv_AppendInt_10 base bs.length n h0 h1 v (Lib.byteCells bs) w hown hbw (by omega) (htab.mono (by omega)))
  have HT := Lib.hid htab
  have HB := Lib.hid hbx
  have hit := Lib.itoa_length_le n h0 h1
  clear hown htab hbx h0 h1
  go_enter Tryz.func54, Tryz.ntmps54
  go_wp2_with fail
  refine HA.out.mono ?_
  rintro e w1 ⟨v1, rfl, ho1, hb1, hok⟩
  have hfA : InkFr K base w w1 := ⟨hb1.os, hb1.tape, hb1.output, hb1.size, fun i hi hm => by
    by_cases hib : i < base
    · exact hb1.block i hib
    · have hu : ¬ U8 w i := fun hu => hm (.inr ⟨by omega, hu⟩)
      obtain ⟨o, ho⟩ : ∃ o, w.heap[i]? = some o := ⟨w.heap[i], Array.getElem?_eq_getElem hi⟩
      rw [ho]
      exact hok i o ho (by simp) (fun c fz e => hu ⟨c, fz, by rw [ho, e]⟩)⟩
  clear hok
  clear HA
  have hbx1 : w1.heap[K]? = some (.cells #[v] 40 (0, 0)) := (hb1.block K hKb).trans HB.out
  have hc1 : w1.cell? ⟨K, 0, none⟩ = some v := by rw [cellsAt hbx1]; rfl
  have hz1' : w1.frozen? ⟨K, 0, none⟩ = false := frozenAt hbx1 0
  obtain ⟨A1, cap1, rfl, hnc1, hcm1, hAn⟩ := ownsRow_shape ho1
  clear hAn
  have hs1 := hb1.size
  have hbx2 : (w1.setCell ⟨K, 0, none⟩ (.slice A1 (bs.length + (Lib.itoa n).length) cap1)).heap[K]? = some (.cells #[.slice A1 (bs.length + (Lib.itoa n).length) cap1] 40 (0, 0)) := by
    simp [World.setCell, Array.getElem?_modify, hbx1]
  have hf2 : Fr (fun i => i = K) w1 (w1.setCell ⟨K, 0, none⟩ (.slice A1 (bs.length + (Lib.itoa n).length) cap1)) := (Fr.refl (fun i => i = K) w1).setCell (fun _ => rfl) _
  have ho2 := ownsRow_fr ho1 hf2 (fun i hi => by have := (ownsRow_block ho1 hi).1; omega)
  have hf12 : InkFr K base w (w1.setCell ⟨K, 0, none⟩ (.slice A1 (bs.length + (Lib.itoa n).length) cap1)) := hfA.trans (hf2.mono (fun i _ hi => .inl hi))
  have HO2 := Lib.hid ho2
  have HX2 := Lib.hid hbx2
  have HF := Lib.hid hf12
  clear ho1 ho2 hbx1 hbx2 hf2 hf12 hb1 hfA
  have HM1 := Lib.hid hcm1
  have HL := Lib.hid hl
  clear hcm1 hl
  go_wp2_with (at_builtin; refine wpList_append_own _ rfl (.tmp 17) (.tmp 18) 38 rfl base 5 i0 _ 1 1 Tryz.underlying38 hi hz0 hz1 hz2 rfl (by decide) (.slice A1 (bs.length + (Lib.itoa n).length) cap1) (bs.length + (Lib.itoa n).length) (Lib.byteCells bs ++ Lib.byteCells (Lib.itoa n)) rfl (HO2.out.alloc _) ⟨w1.heap.size, 0, none⟩ 1 1 [.int .u8 32] rfl rfl ?c0 (by simp [Value.oneCell']) ?c3 ?c4 ?c5 ?_)
  case c0 => have := cell_one_new (w1.setCell ⟨K, 0, none⟩ (.slice A1 (bs.length + (Lib.itoa n).length) cap1)) (.int .u8 32) 5; simpa using this
  case c3 => have := HL.out; unfold maxLen; omega
  case c4 => have := HL.out; omega
  case c5 => simp; omega
  intro v' w2 hown' hgrow _
  obtain ⟨g', cap', rfl, hgb, hgl, _, _⟩ := ownsRow_some hown' (by omega)
  have hfg := Fr.of_grown hgrow
  have hne : ¬ some K = (Value.slice A1 (bs.length + (Lib.itoa n).length) cap1).ownBlock := by
    intro hv
    have := (ownsRow_block HO2.out hv).1
    omega
  have hsz2 : w1.heap.size + 1 ≤ w2.heap.size := by have := hgrow.size; simpa using this
  have hbx3 : w2.heap[K]? = some (.cells #[.slice A1 (bs.length + (Lib.itoa n).length) cap1] 40 (0, 0)) := by
    rw [hfg.block K (by simp; omega) hne]
    exact (Below.heap_alloc _ _ _ (by simp; omega)).trans HX2.out
  have hc3 : w2.cell? ⟨K, 0, none⟩ = some (.slice A1 (bs.length + (Lib.itoa n).length) cap1) := by rw [cellsAt hbx3]; rfl
  have hz3 : w2.frozen? ⟨K, 0, none⟩ = false := frozenAt hbx3 0
  have HF3 : Hid (InkFr K base w w2) := Lib.hid ((HF.out.alloc _).trans (hfg.mono (fun i _ hi => .inr (ownBlock_u8 (HO2.out.alloc _) hi))))
  have HB3 := Lib.hid hbx3
  have HO3 := Lib.hid hown'
  have hgK : g' ≠ K := by omega
  clear hbx3 hown' hfg hgrow hne
  go_wp2
  go_end0
  have hf4 : InkFr K base w (w2.setCell ⟨K, 0, none⟩ (.slice (some ⟨g', 0, none⟩) (bs.length + (Lib.itoa n).length + 1) cap')) := Fr.setCell HF3.out (fun _ => .inl rfl) _
  refine ⟨rfl, ⟨hKb, Nat.le_trans hbw hf4.size, HT.out.on (hf4.below (by omega) (by omega)), .slice (some ⟨g', 0, none⟩) (bs.length + (Lib.itoa n).length + 1) cap', ?_, ?_⟩, hf4⟩
  · have := HB3.out
    simp [World.setCell, Array.getElem?_modify, this]
  · have h2 := ownsRow_fr (may := fun i => i = K) HO3.out ((Fr.refl (fun i => i = K) w2).setCell (p := ⟨K, 0, none⟩) (fun _ => rfl) (.slice (some ⟨g', 0, none⟩) (bs.length + (Lib.itoa n).length + 1) cap')) (fun i hi => by cases hi; exact hgK)
    have e1 : (bs ++ inkInt n).length = bs.length + (Lib.itoa n).length + 1 := by simp [inkInt]; omega
    have e2 : Lib.byteCells (bs ++ inkInt n) = Lib.byteCells bs ++ (Lib.byteCells (Lib.itoa n) ++ [.int .u8 32]) := by simp [inkInt, Lib.byteCells]
    rw [e1, e2]; exact h2
theorem told_any0 (K base : Nat) (bs : List UInt8) (w : World) (h : InkAt w K base bs) (hl : bs.length < 100000000000) :
    Calls Tryz.prog 13 #[.pointer (some ⟨K, 0, none⟩)] w fun e w' => e = .returned (.string ⟨bs.toArray⟩) ∧ w = w' := by
  obtain ⟨hKb, hbw, htab, v, hbx, hown⟩ := h
  have hc : w.cell? ⟨K, 0, none⟩ = some v := by rw [cellsAt hbx]; rfl
  obtain ⟨A, cap, rfl, hnc, hcm, hAn⟩ := ownsRow_shape hown
  have hrun : (convert 38 9 (.slice A bs.length cap)).run Tryz.prog w = .ok (.string ⟨bs.toArray⟩) w := by
    rcases hown.2 with ⟨hv, h0⟩ | ⟨g, cap', cur, hv, hb, hh, h1, h2, h3, h4⟩
    · obtain rfl : bs = [] := List.eq_nil_of_length_eq_zero h0
      simp only [Value.slice.injEq] at hv
      obtain ⟨rfl, _, rfl⟩ := hv
      exact Lib.run_convert_nil_bytes w 38 9 5 0 Tryz.underlying38 Tryz.underlying5 Tryz.underlying9
    · simp only [Value.slice.injEq, true_and] at hv
      obtain ⟨rfl, rfl⟩ := hv
      have hby : Lib.Bytes w g 0 ⟨bs.toArray⟩ := by
        intro i hi
        rw [cellsAt hh, Nat.zero_add]
        have hi' : i < bs.length := by simpa [ByteArray.size] using hi
        have hg : (Lib.byteCells bs)[i]? = some (.int .u8 (bs[i].toNat : Int)) := by
          unfold Lib.byteCells; rw [List.getElem?_map, List.getElem?_eq_getElem hi']; rfl
        rw [← h4, List.getElem?_take] at hg
        split at hg
        · rw [show (⟨bs.toArray⟩ : ByteArray)[i] = bs[i] from rfl]; simpa using hg
        · cases hg
      have := Lib.run_convert_whole (P := Tryz.prog) w 38 5 9 Tryz.underlying38 Tryz.underlying5 Tryz.underlying9 g 0 ⟨bs.toArray⟩ hby cap
      have hsz : (⟨bs.toArray⟩ : ByteArray).size = bs.length := by simp [ByteArray.size]
      rw [hsz] at this
      exact this
  clear htab hbx hown hAn hcm
  go_enter Tryz.func13, Tryz.ntmps13
  go_wp2
  go_ret
  exact ⟨rfl, rfl⟩

end Go.Proofs.YtnpfdelklolchaaGreatDoor
