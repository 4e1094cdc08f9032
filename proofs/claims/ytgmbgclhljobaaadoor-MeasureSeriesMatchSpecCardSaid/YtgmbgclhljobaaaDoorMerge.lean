/- merge, Merge. -/
import Derived.Test.YtgmbgclhljobaaaDoorTally
import Derived.Test.YtgmbgclhljobaaaDoorBoth
import Derived.Test.YtgmbgclhljobaaaDoorHP
import Derived.Test.YtgmbgclhljobaaaDoorMergeMath
import Derived.Deep.RegionHeld3
import Derived.Deep.DrawnRows
namespace Go.Proofs.YtgmbgclhljobaaaDoor
open Go Go.RowKit Go.Proofs Go.Maps

/-- the error of merge -/
def codeM (cs1 cs2 : List (Int × Int)) : Int := if 1125899906842624 < tot cs1 + tot cs2 then 3 else 0
/-- the error of Merge -/
def codeG (b1 : Int) (cs1 : List (Int × Int)) (b2 : Int) (cs2 : List (Int × Int)) : Int := if codeB b1 cs1 b2 cs2 ≠ 0 then codeB b1 cs1 b2 cs2 else codeM cs1 cs2
theorem codeB_zero {b1 b2 : Int} {cs1 cs2 : List (Int × Int)} (h : codeB b1 cs1 b2 cs2 = 0) : Good b1 cs1 ∧ Good b2 cs2 ∧ b2 = b1 := by
  unfold codeB at h
  by_cases h1 : codeH b1 cs1 = 0
  · rw [if_neg (by simpa using h1)] at h
    by_cases h2 : codeH b2 cs2 = 0
    · rw [if_neg (by simpa using h2)] at h
      by_cases h3 : b1 = b2
      · exact ⟨codeH_zero h1, codeH_zero h2, h3.symm⟩
      · rw [if_neg h3] at h; omega
    · rw [if_pos h2] at h; exact absurd h h2
  · rw [if_pos h1] at h; exact absurd h h1
/-- what the loop of merge keeps -/
def MeRel (w wr : World) (bs : List (Nat × Obj)) (M : Nat) (cs1 cs2 : List (Int × Int)) (k : Nat) : Prop :=
  k ≤ cs2.length ∧ MapII wr M (cs1.length + k) (sumAt id (cs1 ++ cs2.take k)) ∧ St w wr bs ∧ M < wr.heap.size

attribute [local go_sem ↓] Go.wp_at_zero Go.wp_at_succ

set_option maxHeartbeats 2000000 in
set_option maxRecDepth 100000 in
theorem merge_any (d b2 : Int) (A1 A2 : Option Addr) (c1 c2 : Nat) (cs1 cs2 : List (Int × Int)) (w : World) (hr1 : Rd w 0 w.heap.size 2 A1 cs1.length (cells2 cs1)) (hr2 : Rd w 0 w.heap.size 2 A2 cs2.length (cells2 cs2)) (hg1 : Good d cs1) (hg2 : Good d cs2) :
    Calls Tryd.prog 61 #[.agg #[.int .i64 d, .slice A1 cs1.length c1], .agg #[.int .i64 b2, .slice A2 cs2.length c2]] w (HistPost (sumAt id (cs1 ++ cs2)) d (codeM cs1 cs2) w) := by
  obtain ⟨W0, hW0⟩ : ∃ W0, W0 = (((w).alloc (.cells #[Value.int .i64 d, Value.slice A1 cs1.length c1] 24)).alloc (.cells #[Value.int .i64 b2, Value.slice A2 cs2.length c2] 24)).alloc (.cells #[Value.int .i64 0, Value.slice none 0 0] 24) := ⟨_, rfl⟩
  have st0 : St w W0 [(w.heap.size, Obj.cells #[Value.int .i64 d, Value.slice A1 cs1.length c1] 24 (0, 0)), (w.heap.size + 1, Obj.cells #[Value.int .i64 b2, Value.slice A2 cs2.length c2] 24 (0, 0)), (w.heap.size + 1 + 1, Obj.cells #[Value.int .i64 0, Value.slice none 0 0] 24 (0, 0))] := by rw [hW0]; exact (((St.start w).alloc _ _ (by simp)).alloc _ _ (by simp)).alloc _ _ (by simp)
  have hs0 : W0.heap.size = w.heap.size + 1 + 1 + 1 := by rw [hW0]; simp
  have hsz0 : w.heap.size + 1 + 1 + 1 ≤ W0.heap.size := by omega
  have HST0 := Lib.hid st0
  have HS0 := Lib.hid hs0
  obtain ⟨hb2, hb8, hlen1, hcs1, _, htot1⟩ := id hg1
  obtain ⟨_, _, hlen2, hcs2, _, htot2⟩ := id hg2
  have htd1 := tot_bd cs1 (fun c hc => (hcs1 c hc).2)
  have htd2 := tot_bd cs2 (fun c hc => (hcs2 c hc).2)
  have hmx := maxB_bd d hb2 hb8
  have HT1 := Lib.hid (fun W' (hb : Below W0.heap.size W0 W') => total_any d A1 cs1.length c1 cs1 W' (hr1.old (st0.old hb)) (by omega) (fun c hc => (hcs1 c hc).2) hlen1)
  have HT2 := Lib.hid (fun W' (hb : Below W0.heap.size W0 W') => total_any b2 A2 cs2.length c2 cs2 W' (hr2.old (st0.old hb)) (by omega) (fun c hc => (hcs2 c hc).2) hlen2)
  have HR1 := Lib.hid hr1
  have HR2 := Lib.hid hr2
  have HG1 := Lib.hid hg1
  have HG2 := Lib.hid hg2
  have HCS1 := Lib.hid hcs1
  have HCS2 := Lib.hid hcs2
  clear hr1 hr2 hg1 hg2 hcs1 hcs2
  clear st0 hs0
  go_enter Tryd.func61, Tryd.ntmps61
  go_wp2_with fail
  rw [← hW0]
  clear hW0
  have hwr : IntKind.i64.wrap (tot cs1 + tot cs2) = tot cs1 + tot cs2 := IntWalk.i64_in _ (by omega)
  by_cases hbig : 1125899906842624 < tot cs1 + tot cs2
  · have hbig' : decide (1125899906842624 < tot cs1 + tot cs2) = true := by simpa using hbig
    have HCC := Lib.hid (show codeM cs1 cs2 = 3 by unfold codeM; rw [if_pos hbig])
    have HKS := Lib.hid (show ∀ w', Below W0.heap.size W0 w' → w'.cell? ⟨w.heap.size, 0, none⟩ = some (Value.int .i64 d) ∧ w'.cell? ⟨w.heap.size, 1, none⟩ = some (Value.slice A1 cs1.length c1) ∧ w'.cell? ⟨w.heap.size + 1, 0, none⟩ = some (Value.int .i64 b2) ∧ w'.cell? ⟨w.heap.size + 1, 1, none⟩ = some (Value.slice A2 cs2.length c2) ∧ w'.cell? ⟨w.heap.size + 1 + 1, 0, none⟩ = some (Value.int .i64 0) ∧ w'.cell? ⟨w.heap.size + 1 + 1, 1, none⟩ = some (Value.slice none 0 0) ∧ Below W0.heap.size W0 w' from fun w' hb => ⟨(HST0.out.call hb).cell 0 0 rfl rfl, (HST0.out.call hb).cell 0 1 rfl rfl, (HST0.out.call hb).cell 1 0 rfl rfl, (HST0.out.call hb).cell 1 1 rfl rfl, (HST0.out.call hb).cell 2 0 rfl rfl, (HST0.out.call hb).cell 2 1 rfl rfl, hb⟩)
    have k0_0 : W0.cell? ⟨w.heap.size, 0, none⟩ = some (Value.int .i64 d) := HST0.out.cell 0 0 rfl rfl
    have k0_1 : W0.cell? ⟨w.heap.size, 1, none⟩ = some (Value.slice A1 cs1.length c1) := HST0.out.cell 0 1 rfl rfl
    have l0_ : w.heap.size < W0.heap.size := HST0.out.lt 0 rfl
    have k1_0 : W0.cell? ⟨w.heap.size + 1, 0, none⟩ = some (Value.int .i64 b2) := HST0.out.cell 1 0 rfl rfl
    have k1_1 : W0.cell? ⟨w.heap.size + 1, 1, none⟩ = some (Value.slice A2 cs2.length c2) := HST0.out.cell 1 1 rfl rfl
    have l1_ : w.heap.size + 1 < W0.heap.size := HST0.out.lt 1 rfl
    have k2_0 : W0.cell? ⟨w.heap.size + 1 + 1, 0, none⟩ = some (Value.int .i64 0) := HST0.out.cell 2 0 rfl rfl
    have z2_0 : W0.frozen? ⟨w.heap.size + 1 + 1, 0, none⟩ = false := HST0.out.frozen 2 0 rfl
    have k2_1 : W0.cell? ⟨w.heap.size + 1 + 1, 1, none⟩ = some (Value.slice none 0 0) := HST0.out.cell 2 1 rfl rfl
    have z2_1 : W0.frozen? ⟨w.heap.size + 1 + 1, 1, none⟩ = false := HST0.out.frozen 2 1 rfl
    have l2_ : w.heap.size + 1 + 1 < W0.heap.size := HST0.out.lt 2 rfl
    go_region_held3 (fun w' => w'.cell? ⟨w.heap.size, 0, none⟩ = some (Value.int .i64 d) ∧ w'.cell? ⟨w.heap.size, 1, none⟩ = some (Value.slice A1 cs1.length c1) ∧ w'.cell? ⟨w.heap.size + 1, 0, none⟩ = some (Value.int .i64 b2) ∧ w'.cell? ⟨w.heap.size + 1, 1, none⟩ = some (Value.slice A2 cs2.length c2) ∧ w'.cell? ⟨w.heap.size + 1 + 1, 0, none⟩ = some (Value.int .i64 0) ∧ w'.cell? ⟨w.heap.size + 1 + 1, 1, none⟩ = some (Value.slice none 0 0) ∧ Below W0.heap.size W0 w')
      (first
        | exact HKS.out _ (Below.refl _ W0).drew
        | (go_split_ands; refine HKS.out _ (below_next ?_ hbA); assumption)
        | (go_split_ands; refine HKS.out _ (below_next ?_ hbB); assumption))
      (first
        | (go_at_call_of 57 (Value.agg #[.int .i64 d, .slice A1 cs1.length c1]); refine (HT1.out _ ?_).mono ?_; (go_split_ands; assumption); rintro e wA ⟨rfl, hbA⟩)
        | (go_at_call_of 57 (Value.agg #[.int .i64 b2, .slice A2 cs2.length c2]); refine (HT2.out _ ?_).mono ?_; (go_split_ands; assumption); rintro e wB ⟨rfl, hbB⟩))
    have hbel1 : Below W0.heap.size W0 wB := by go_split_ands; assumption
    have HST1 := Lib.hid (HST0.out.call hbel1)
    have hsz1 := hbel1.size
    clear k0_0 k0_1 l0_ k1_0 k1_1 l1_ k2_0 z2_0 k2_1 z2_1 l2_
    have HBEL1 := Lib.hid hbel1
    clear hbel1
    have k0_0 : wB.cell? ⟨w.heap.size, 0, none⟩ = some (Value.int .i64 d) := HST1.out.cell 0 0 rfl rfl
    have k0_1 : wB.cell? ⟨w.heap.size, 1, none⟩ = some (Value.slice A1 cs1.length c1) := HST1.out.cell 0 1 rfl rfl
    have l0_ : w.heap.size < wB.heap.size := HST1.out.lt 0 rfl
    have k1_0 : wB.cell? ⟨w.heap.size + 1, 0, none⟩ = some (Value.int .i64 b2) := HST1.out.cell 1 0 rfl rfl
    have k1_1 : wB.cell? ⟨w.heap.size + 1, 1, none⟩ = some (Value.slice A2 cs2.length c2) := HST1.out.cell 1 1 rfl rfl
    have l1_ : w.heap.size + 1 < wB.heap.size := HST1.out.lt 1 rfl
    have k2_0 : wB.cell? ⟨w.heap.size + 1 + 1, 0, none⟩ = some (Value.int .i64 0) := HST1.out.cell 2 0 rfl rfl
    have z2_0 : wB.frozen? ⟨w.heap.size + 1 + 1, 0, none⟩ = false := HST1.out.frozen 2 0 rfl
    have k2_1 : wB.cell? ⟨w.heap.size + 1 + 1, 1, none⟩ = some (Value.slice none 0 0) := HST1.out.cell 2 1 rfl rfl
    have z2_1 : wB.frozen? ⟨w.heap.size + 1 + 1, 1, none⟩ = false := HST1.out.frozen 2 1 rfl
    have l2_ : w.heap.size + 1 + 1 < wB.heap.size := HST1.out.lt 2 rfl
    clear hbA hbB hwr HKS
    go_wp2
    refine bodyPost_ret (v := .tuple #[.agg #[.int .i64 0, .slice none 0 0], .int .i64 (3)]) (by simp [results, Tryd.results61, go_sem, k2_0, k2_1]) rfl (HistPost.none (by omega) HCC.out ?_)
    repeat (first | exact HST1.out.below | (refine Below.setCell ?_ (by dsimp only; omega) _))
  · have hbig' : decide (1125899906842624 < tot cs1 + tot cs2) = false := by simpa using hbig
    have HCC := Lib.hid (show codeM cs1 cs2 = 0 by unfold codeM; rw [if_neg hbig])
    have HKS := Lib.hid (show ∀ w', Below W0.heap.size W0 w' → w'.cell? ⟨w.heap.size, 0, none⟩ = some (Value.int .i64 d) ∧ w'.cell? ⟨w.heap.size, 1, none⟩ = some (Value.slice A1 cs1.length c1) ∧ w'.cell? ⟨w.heap.size + 1, 0, none⟩ = some (Value.int .i64 b2) ∧ w'.cell? ⟨w.heap.size + 1, 1, none⟩ = some (Value.slice A2 cs2.length c2) ∧ w'.cell? ⟨w.heap.size + 1 + 1, 0, none⟩ = some (Value.int .i64 0) ∧ w'.cell? ⟨w.heap.size + 1 + 1, 1, none⟩ = some (Value.slice none 0 0) ∧ Below W0.heap.size W0 w' from fun w' hb => ⟨(HST0.out.call hb).cell 0 0 rfl rfl, (HST0.out.call hb).cell 0 1 rfl rfl, (HST0.out.call hb).cell 1 0 rfl rfl, (HST0.out.call hb).cell 1 1 rfl rfl, (HST0.out.call hb).cell 2 0 rfl rfl, (HST0.out.call hb).cell 2 1 rfl rfl, hb⟩)
    have k0_0 : W0.cell? ⟨w.heap.size, 0, none⟩ = some (Value.int .i64 d) := HST0.out.cell 0 0 rfl rfl
    have k0_1 : W0.cell? ⟨w.heap.size, 1, none⟩ = some (Value.slice A1 cs1.length c1) := HST0.out.cell 0 1 rfl rfl
    have l0_ : w.heap.size < W0.heap.size := HST0.out.lt 0 rfl
    have k1_0 : W0.cell? ⟨w.heap.size + 1, 0, none⟩ = some (Value.int .i64 b2) := HST0.out.cell 1 0 rfl rfl
    have k1_1 : W0.cell? ⟨w.heap.size + 1, 1, none⟩ = some (Value.slice A2 cs2.length c2) := HST0.out.cell 1 1 rfl rfl
    have l1_ : w.heap.size + 1 < W0.heap.size := HST0.out.lt 1 rfl
    have k2_0 : W0.cell? ⟨w.heap.size + 1 + 1, 0, none⟩ = some (Value.int .i64 0) := HST0.out.cell 2 0 rfl rfl
    have z2_0 : W0.frozen? ⟨w.heap.size + 1 + 1, 0, none⟩ = false := HST0.out.frozen 2 0 rfl
    have k2_1 : W0.cell? ⟨w.heap.size + 1 + 1, 1, none⟩ = some (Value.slice none 0 0) := HST0.out.cell 2 1 rfl rfl
    have z2_1 : W0.frozen? ⟨w.heap.size + 1 + 1, 1, none⟩ = false := HST0.out.frozen 2 1 rfl
    have l2_ : w.heap.size + 1 + 1 < W0.heap.size := HST0.out.lt 2 rfl
    go_region_held3 (fun w' => w'.cell? ⟨w.heap.size, 0, none⟩ = some (Value.int .i64 d) ∧ w'.cell? ⟨w.heap.size, 1, none⟩ = some (Value.slice A1 cs1.length c1) ∧ w'.cell? ⟨w.heap.size + 1, 0, none⟩ = some (Value.int .i64 b2) ∧ w'.cell? ⟨w.heap.size + 1, 1, none⟩ = some (Value.slice A2 cs2.length c2) ∧ w'.cell? ⟨w.heap.size + 1 + 1, 0, none⟩ = some (Value.int .i64 0) ∧ w'.cell? ⟨w.heap.size + 1 + 1, 1, none⟩ = some (Value.slice none 0 0) ∧ Below W0.heap.size W0 w')
      (first
        | exact HKS.out _ (Below.refl _ W0).drew
        | (go_split_ands; refine HKS.out _ (below_next ?_ hbA); assumption)
        | (go_split_ands; refine HKS.out _ (below_next ?_ hbB); assumption))
      (first
        | (go_at_call_of 57 (Value.agg #[.int .i64 d, .slice A1 cs1.length c1]); refine (HT1.out _ ?_).mono ?_; (go_split_ands; assumption); rintro e wA ⟨rfl, hbA⟩)
        | (go_at_call_of 57 (Value.agg #[.int .i64 b2, .slice A2 cs2.length c2]); refine (HT2.out _ ?_).mono ?_; (go_split_ands; assumption); rintro e wB ⟨rfl, hbB⟩))
    have hbel1 : Below W0.heap.size W0 wB := by go_split_ands; assumption
    have HST1 := Lib.hid (HST0.out.call hbel1)
    have hsz1 := hbel1.size
    clear k0_0 k0_1 l0_ k1_0 k1_1 l1_ k2_0 z2_0 k2_1 z2_1 l2_
    have HBEL1 := Lib.hid hbel1
    clear hbel1
    have k0_0 : wB.cell? ⟨w.heap.size, 0, none⟩ = some (Value.int .i64 d) := HST1.out.cell 0 0 rfl rfl
    have k0_1 : wB.cell? ⟨w.heap.size, 1, none⟩ = some (Value.slice A1 cs1.length c1) := HST1.out.cell 0 1 rfl rfl
    have l0_ : w.heap.size < wB.heap.size := HST1.out.lt 0 rfl
    have k1_0 : wB.cell? ⟨w.heap.size + 1, 0, none⟩ = some (Value.int .i64 b2) := HST1.out.cell 1 0 rfl rfl
    have k1_1 : wB.cell? ⟨w.heap.size + 1, 1, none⟩ = some (Value.slice A2 cs2.length c2) := HST1.out.cell 1 1 rfl rfl
    have l1_ : w.heap.size + 1 < wB.heap.size := HST1.out.lt 1 rfl
    have k2_0 : wB.cell? ⟨w.heap.size + 1 + 1, 0, none⟩ = some (Value.int .i64 0) := HST1.out.cell 2 0 rfl rfl
    have z2_0 : wB.frozen? ⟨w.heap.size + 1 + 1, 0, none⟩ = false := HST1.out.frozen 2 0 rfl
    have k2_1 : wB.cell? ⟨w.heap.size + 1 + 1, 1, none⟩ = some (Value.slice none 0 0) := HST1.out.cell 2 1 rfl rfl
    have z2_1 : wB.frozen? ⟨w.heap.size + 1 + 1, 1, none⟩ = false := HST1.out.frozen 2 1 rfl
    have l2_ : w.heap.size + 1 + 1 < wB.heap.size := HST1.out.lt 2 rfl
    clear hbA hbB hwr HKS
    have HTA := Lib.hid (tallyOf_any d A1 c1 cs1 wB (HR1.out.old HST1.out.below) HG1.out)
    go_wp2_with fail
    refine HTA.out.mono ?_
    rintro e w3 ⟨M, rfl, hM0, hM1, hmap, hb3⟩
    have HST2 := Lib.hid (HST1.out.call hb3)
    have hsz2 := hb3.size
    clear k0_0 k0_1 l0_ k1_0 k1_1 l1_ k2_0 z2_0 k2_1 z2_1 l2_
    clear hb3
    have k0_0 : w3.cell? ⟨w.heap.size, 0, none⟩ = some (Value.int .i64 d) := HST2.out.cell 0 0 rfl rfl
    have k0_1 : w3.cell? ⟨w.heap.size, 1, none⟩ = some (Value.slice A1 cs1.length c1) := HST2.out.cell 0 1 rfl rfl
    have l0_ : w.heap.size < w3.heap.size := HST2.out.lt 0 rfl
    have k1_0 : w3.cell? ⟨w.heap.size + 1, 0, none⟩ = some (Value.int .i64 b2) := HST2.out.cell 1 0 rfl rfl
    have k1_1 : w3.cell? ⟨w.heap.size + 1, 1, none⟩ = some (Value.slice A2 cs2.length c2) := HST2.out.cell 1 1 rfl rfl
    have l1_ : w.heap.size + 1 < w3.heap.size := HST2.out.lt 1 rfl
    have k2_0 : w3.cell? ⟨w.heap.size + 1 + 1, 0, none⟩ = some (Value.int .i64 0) := HST2.out.cell 2 0 rfl rfl
    have z2_0 : w3.frozen? ⟨w.heap.size + 1 + 1, 0, none⟩ = false := HST2.out.frozen 2 0 rfl
    have k2_1 : w3.cell? ⟨w.heap.size + 1 + 1, 1, none⟩ = some (Value.slice none 0 0) := HST2.out.cell 2 1 rfl rfl
    have z2_1 : w3.frozen? ⟨w.heap.size + 1 + 1, 1, none⟩ = false := HST2.out.frozen 2 1 rfl
    have l2_ : w.heap.size + 1 + 1 < w3.heap.size := HST2.out.lt 2 rfl
    have HMAP := Lib.hid hmap
    clear hmap
    have hM2 : w.heap.size + 1 + 1 < M := by omega
    clear hM0
    go_wp2
    go_loopw [8, 21] (fun _ i wr => ∃ k : Nat, i = .int .i64 k ∧ MeRel w wr [(w.heap.size, Obj.cells #[Value.int .i64 d, Value.slice A1 cs1.length c1] 24 (0, 0)), (w.heap.size + 1, Obj.cells #[Value.int .i64 b2, Value.slice A2 cs2.length c2] 24 (0, 0)), (w.heap.size + 1 + 1, Obj.cells #[Value.int .i64 0, Value.slice none 0 0] 24 (0, 0))] M cs1 cs2 k) (fun _ i _ => cs2.length - (intOf i).toNat)
    case atStart => exact ⟨0, rfl, Nat.zero_le _, by simpa using HMAP.out, HST2.out, hM1⟩
    case round =>
      obtain ⟨k, rfl, hrel⟩ := hrel
      obtain ⟨hk, hmap, hst, hMl⟩ := id hrel
      have hsum := fun x => sumAt_bd id (cs1 ++ cs2.take k) x (fun c hc => by
        rcases List.mem_append.1 hc with h | h
        · have := HCS1.out c h; omega
        · have := HCS2.out c (List.mem_of_mem_take h); omega)
      have htt := tot_take_le cs2 (fun c hc => by have := HCS2.out c hc; omega) k
      have hta := tot_append cs1 (cs2.take k)
      have HTA2 := Lib.hid hta
      have HSUM := Lib.hid hsum
      clear hsum hta
      by_cases hlt : k < cs2.length
      · obtain ⟨bk, o, x, m, rfl, _, hbk, hx, q0, q1⟩ := (HR2.out.below hst.below (Nat.le_refl _)).at2 hlt
        have hcx := HCS2.out (x, m) (List.mem_of_getElem? hx)
        obtain ⟨⟨hx0', hx1'⟩, hm1, hm2⟩ := hcx
        simp only at hx0' hx1' hm1 hm2
        have hsx := HSUM.out x
        rw [HTA2.out] at hsx
        obtain ⟨hsx1, hsx2⟩ := hsx
        have hne : bk ≠ wr.heap.size := by have := hst.below.size; omega
        have hbl : bk < wr.heap.size := by have := hst.below.size; omega
        obtain ⟨W2, hW2⟩ : ∃ W2, W2 = wr.alloc (.cells #[.int .i64 x, .int .i64 m] 63) := ⟨_, rfl⟩
        have hmW2 : MapII W2 M (cs1.length + k) (sumAt id (cs1 ++ cs2.take k)) := by
          obtain ⟨D, h1, h2⟩ := hmap
          exact ⟨D, by rw [hW2]; exact h1.alloc _, h2⟩
        have hwf : (Lit.int .i64 x).wf = true := wf_i64 (by omega) (by omega)
        have hlook := lookW_run hmW2 x hwf
        obtain ⟨hput, hpm, hpg⟩ := putW_run hmW2 (by omega) x (sumAt id (cs1 ++ cs2.take k) x + m) hwf (wf_i64 (by omega) (by omega))
        have hnew : MeRel w (putW M x (sumAt id (cs1 ++ cs2.take k) x + m) W2) [(w.heap.size, Obj.cells #[Value.int .i64 d, Value.slice A1 cs1.length c1] 24 (0, 0)), (w.heap.size + 1, Obj.cells #[Value.int .i64 b2, Value.slice (some ⟨bk, o, none⟩) cs2.length c2] 24 (0, 0)), (w.heap.size + 1 + 1, Obj.cells #[Value.int .i64 0, Value.slice none 0 0] 24 (0, 0))] M cs1 cs2 (k + 1) := by
          refine ⟨by omega, ?_, ?_, ?_⟩
          · have := sumAt_snoc id (cs1 ++ cs2.take k) x m
            rw [show id x = x from rfl] at this
            rw [this] at hpm
            rw [List.take_add_one, hx]; rw [List.append_assoc] at hpm; exact hpm
          · exact (by rw [hW2]; exact hst.more _ : St w W2 _).grown hpg (by omega) (by simp; omega)
          · have h1 := hpg.size
            have h2 : W2.heap.size = wr.heap.size + 1 := by rw [hW2]; simp
            omega
        rw [hW2] at hput hlook
        have HNEW := Lib.hid hnew
        clear hrel hx hmap hmW2 hpm hpg hst hnew hwf
        go_wp2
        go_roundw
        case rel => exact ⟨k + 1, by go_num, by rw [← hW2]; exact HNEW.out⟩
        case measure => simp [intOf]; omega
      · have htk : cs2.take k = cs2 := List.take_of_length_le (by omega)
        rw [htk] at hmap
        have HH := Lib.hid (histogram_any M (cs1.length + k) d (sumAt id (cs1 ++ cs2)) wr hmap (by omega) (fun x hx => by
          obtain ⟨y, hy, e⟩ := sumAt_ne _ _ _ hx
          have h1 : 0 ≤ y.1 ∧ y.1 ≤ maxB d := by
            rcases List.mem_append.1 hy with h | h
            · exact (HCS1.out y h).1
            · exact (HCS2.out y h).1
          simp only [id] at e
          exact wf_i64 (by omega) (by omega)))
        have HST3 := Lib.hid hst
        clear hrel hmap htk hst
        clear k0_0 k0_1 l0_ k1_0 k1_1 l1_ k2_0 z2_0 k2_1 z2_1 l2_
        have k0_0 : wr.cell? ⟨w.heap.size, 0, none⟩ = some (Value.int .i64 d) := HST3.out.cell 0 0 rfl rfl
        have k0_1 : wr.cell? ⟨w.heap.size, 1, none⟩ = some (Value.slice A1 cs1.length c1) := HST3.out.cell 0 1 rfl rfl
        have l0_ : w.heap.size < wr.heap.size := HST3.out.lt 0 rfl
        have k1_0 : wr.cell? ⟨w.heap.size + 1, 0, none⟩ = some (Value.int .i64 b2) := HST3.out.cell 1 0 rfl rfl
        have k1_1 : wr.cell? ⟨w.heap.size + 1, 1, none⟩ = some (Value.slice A2 cs2.length c2) := HST3.out.cell 1 1 rfl rfl
        have l1_ : w.heap.size + 1 < wr.heap.size := HST3.out.lt 1 rfl
        have k2_0 : wr.cell? ⟨w.heap.size + 1 + 1, 0, none⟩ = some (Value.int .i64 0) := HST3.out.cell 2 0 rfl rfl
        have z2_0 : wr.frozen? ⟨w.heap.size + 1 + 1, 0, none⟩ = false := HST3.out.frozen 2 0 rfl
        have k2_1 : wr.cell? ⟨w.heap.size + 1 + 1, 1, none⟩ = some (Value.slice none 0 0) := HST3.out.cell 2 1 rfl rfl
        have z2_1 : wr.frozen? ⟨w.heap.size + 1 + 1, 1, none⟩ = false := HST3.out.frozen 2 1 rfl
        have l2_ : w.heap.size + 1 + 1 < wr.heap.size := HST3.out.lt 2 rfl
        go_wp2_with fail
        refine HH.out.mono ?_
        rintro e w5 ⟨A', cs', rfl, hh, hrd, hcl, hb5⟩
        have HST4 := Lib.hid (HST3.out.call hb5)
        have hsz4 := hb5.size
        clear k0_0 k0_1 l0_ k1_0 k1_1 l1_ k2_0 z2_0 k2_1 z2_1 l2_
        clear hb5
        have k0_0 : w5.cell? ⟨w.heap.size, 0, none⟩ = some (Value.int .i64 d) := HST4.out.cell 0 0 rfl rfl
        have k0_1 : w5.cell? ⟨w.heap.size, 1, none⟩ = some (Value.slice A1 cs1.length c1) := HST4.out.cell 0 1 rfl rfl
        have l0_ : w.heap.size < w5.heap.size := HST4.out.lt 0 rfl
        have k1_0 : w5.cell? ⟨w.heap.size + 1, 0, none⟩ = some (Value.int .i64 b2) := HST4.out.cell 1 0 rfl rfl
        have k1_1 : w5.cell? ⟨w.heap.size + 1, 1, none⟩ = some (Value.slice A2 cs2.length c2) := HST4.out.cell 1 1 rfl rfl
        have l1_ : w.heap.size + 1 < w5.heap.size := HST4.out.lt 1 rfl
        have k2_0 : w5.cell? ⟨w.heap.size + 1 + 1, 0, none⟩ = some (Value.int .i64 0) := HST4.out.cell 2 0 rfl rfl
        have z2_0 : w5.frozen? ⟨w.heap.size + 1 + 1, 0, none⟩ = false := HST4.out.frozen 2 0 rfl
        have k2_1 : w5.cell? ⟨w.heap.size + 1 + 1, 1, none⟩ = some (Value.slice none 0 0) := HST4.out.cell 2 1 rfl rfl
        have z2_1 : w5.frozen? ⟨w.heap.size + 1 + 1, 1, none⟩ = false := HST4.out.frozen 2 1 rfl
        have l2_ : w.heap.size + 1 + 1 < w5.heap.size := HST4.out.lt 2 rfl
        have HHI := Lib.hid hh
        have HRD := Lib.hid hrd
        have hl5 := HST3.out.lt 2 rfl
        clear hh hrd
        go_wp2
        refine bodyPost_ret (v := .tuple #[.agg #[.int .i64 d, .slice A' cs'.length cs'.length], .int .i64 0]) (by simp [results, Tryd.results61, go_sem, k2_0, k2_1]) rfl (HistPost.some HCC.out HHI.out HRD.out (by omega) HST4.out.below ?_)
        repeat (first | exact Fr.refl _ _ | (refine Fr.setCell ?_ (fun _ => by dsimp only; omega) _))

set_option maxHeartbeats 1000000 in
set_option maxRecDepth 100000 in
theorem Merge_any (b1 b2 : Int) (A1 A2 : Option Addr) (c1 c2 : Nat) (cs1 cs2 : List (Int × Int)) (w : World) (hr1 : Rd w 0 w.heap.size 2 A1 cs1.length (cells2 cs1)) (hr2 : Rd w 0 w.heap.size 2 A2 cs2.length (cells2 cs2)) (hn1 : cs1.length < 9223372036854775807) (hn2 : cs2.length < 9223372036854775807) :
    Calls Tryd.prog 22 #[.agg #[.int .i64 b1, .slice A1 cs1.length c1], .agg #[.int .i64 b2, .slice A2 cs2.length c2]] w (HistPost (sumAt id (cs1 ++ cs2)) b1 (codeG b1 cs1 b2 cs2) w) := by
  obtain ⟨W0, hW0⟩ : ∃ W0, W0 = (((w).alloc (.cells #[Value.int .i64 b1, Value.slice A1 cs1.length c1] 24)).alloc (.cells #[Value.int .i64 b2, Value.slice A2 cs2.length c2] 24)).alloc (.cells #[Value.int .i64 0, Value.slice none 0 0] 24) := ⟨_, rfl⟩
  have st0 : St w W0 [(w.heap.size, Obj.cells #[Value.int .i64 b1, Value.slice A1 cs1.length c1] 24 (0, 0)), (w.heap.size + 1, Obj.cells #[Value.int .i64 b2, Value.slice A2 cs2.length c2] 24 (0, 0)), (w.heap.size + 1 + 1, Obj.cells #[Value.int .i64 0, Value.slice none 0 0] 24 (0, 0))] := by rw [hW0]; exact (((St.start w).alloc _ _ (by simp)).alloc _ _ (by simp)).alloc _ _ (by simp)
  have hs0 : W0.heap.size = w.heap.size + 1 + 1 + 1 := by rw [hW0]; simp
  have hsz0 : w.heap.size + 1 + 1 + 1 ≤ W0.heap.size := by omega
  have HST0 := Lib.hid st0
  have HS0 := Lib.hid hs0
  have HC := Lib.hid (checkBoth_any b1 b2 A1 A2 c1 c2 cs1 cs2 W0 (hr1.old st0.below) (hr2.old st0.below) hn1 hn2)
  have HR1 := Lib.hid hr1
  have HR2 := Lib.hid hr2
  clear hr1 hr2
  clear st0 hs0
  go_enter Tryd.func22, Tryd.ntmps22
  go_wp2_with fail
  rw [← hW0]
  clear hW0
  go_wp2_with fail
  refine HC.out.mono ?_
  rintro e w1 ⟨rfl, hb1'⟩
  have HST1 := Lib.hid (HST0.out.call hb1')
  have hsz1 := hb1'.size
  clear hb1'
  have k0_0 : w1.cell? ⟨w.heap.size, 0, none⟩ = some (Value.int .i64 b1) := HST1.out.cell 0 0 rfl rfl
  have k0_1 : w1.cell? ⟨w.heap.size, 1, none⟩ = some (Value.slice A1 cs1.length c1) := HST1.out.cell 0 1 rfl rfl
  have l0_ : w.heap.size < w1.heap.size := HST1.out.lt 0 rfl
  have k1_0 : w1.cell? ⟨w.heap.size + 1, 0, none⟩ = some (Value.int .i64 b2) := HST1.out.cell 1 0 rfl rfl
  have k1_1 : w1.cell? ⟨w.heap.size + 1, 1, none⟩ = some (Value.slice A2 cs2.length c2) := HST1.out.cell 1 1 rfl rfl
  have l1_ : w.heap.size + 1 < w1.heap.size := HST1.out.lt 1 rfl
  have k2_0 : w1.cell? ⟨w.heap.size + 1 + 1, 0, none⟩ = some (Value.int .i64 0) := HST1.out.cell 2 0 rfl rfl
  have z2_0 : w1.frozen? ⟨w.heap.size + 1 + 1, 0, none⟩ = false := HST1.out.frozen 2 0 rfl
  have k2_1 : w1.cell? ⟨w.heap.size + 1 + 1, 1, none⟩ = some (Value.slice none 0 0) := HST1.out.cell 2 1 rfl rfl
  have z2_1 : w1.frozen? ⟨w.heap.size + 1 + 1, 1, none⟩ = false := HST1.out.frozen 2 1 rfl
  have l2_ : w.heap.size + 1 + 1 < w1.heap.size := HST1.out.lt 2 rfl
  by_cases hch : codeB b1 cs1 b2 cs2 = 0
  · have hch' : (codeB b1 cs1 b2 cs2 != 0) = false := by simp [hch]
    obtain ⟨hg1, hg2, hbb⟩ := codeB_zero hch
    have HCC := Lib.hid (show codeG b1 cs1 b2 cs2 = codeM cs1 cs2 by unfold codeG; rw [if_neg (by rw [hch]; simp)])
    have HM := Lib.hid ((merge_any b1 b2 A1 A2 c1 c2 cs1 cs2 w1 (HR1.out.old HST1.out.below) (HR2.out.old HST1.out.below) hg1 (hbb ▸ hg2)).mono (fun e w' h => h.form))
    clear hch hg1 hg2 hbb
    go_wp2_with fail
    refine HM.out.mono ?_
    rintro e w2 ⟨b', A', n', c', rfl, hsome, hnone, hb2'⟩
    have HST2 := Lib.hid (HST1.out.call hb2')
    have hsz2 := hb2'.size
    clear k0_0 k0_1 l0_ k1_0 k1_1 l1_ k2_0 z2_0 k2_1 z2_1 l2_
    have k0_0 : w2.cell? ⟨w.heap.size, 0, none⟩ = some (Value.int .i64 b1) := HST2.out.cell 0 0 rfl rfl
    have k0_1 : w2.cell? ⟨w.heap.size, 1, none⟩ = some (Value.slice A1 cs1.length c1) := HST2.out.cell 0 1 rfl rfl
    have l0_ : w.heap.size < w2.heap.size := HST2.out.lt 0 rfl
    have k1_0 : w2.cell? ⟨w.heap.size + 1, 0, none⟩ = some (Value.int .i64 b2) := HST2.out.cell 1 0 rfl rfl
    have k1_1 : w2.cell? ⟨w.heap.size + 1, 1, none⟩ = some (Value.slice A2 cs2.length c2) := HST2.out.cell 1 1 rfl rfl
    have l1_ : w.heap.size + 1 < w2.heap.size := HST2.out.lt 1 rfl
    have k2_0 : w2.cell? ⟨w.heap.size + 1 + 1, 0, none⟩ = some (Value.int .i64 0) := HST2.out.cell 2 0 rfl rfl
    have z2_0 : w2.frozen? ⟨w.heap.size + 1 + 1, 0, none⟩ = false := HST2.out.frozen 2 0 rfl
    have k2_1 : w2.cell? ⟨w.heap.size + 1 + 1, 1, none⟩ = some (Value.slice none 0 0) := HST2.out.cell 2 1 rfl rfl
    have z2_1 : w2.frozen? ⟨w.heap.size + 1 + 1, 1, none⟩ = false := HST2.out.frozen 2 1 rfl
    have l2_ : w.heap.size + 1 + 1 < w2.heap.size := HST2.out.lt 2 rfl
    have HS := Lib.hid hsome
    have HN := Lib.hid hnone
    have hl5 := HST1.out.lt 2 rfl
    clear hsome hnone hb2'
    go_wp2
    refine bodyPost_ret (v := .tuple #[.agg #[.int .i64 b', .slice A' n' c'], .int .i64 (codeM cs1 cs2)]) (by simp [results, Tryd.results22, go_sem, k2_0, k2_1]) rfl (HistPost.code ?_ HCC.out.symm)
    by_cases h0 : codeM cs1 cs2 = 0
    · obtain ⟨cs', hh, rfl, rfl, hrd⟩ := HS.out h0
      rw [h0]
      refine HistPost.some rfl hh hrd (by omega) HST2.out.below ?_
      repeat (first | exact Fr.refl _ _ | (refine Fr.setCell ?_ (fun _ => by dsimp only; omega) _))
    · obtain ⟨rfl, rfl, rfl, rfl⟩ := HN.out h0
      refine HistPost.none h0 rfl ?_
      repeat (first | exact HST2.out.below | (refine Below.setCell ?_ (by dsimp only; omega) _))
  · have hch' : (codeB b1 cs1 b2 cs2 != 0) = true := by simp [hch]
    have HCC := Lib.hid (show codeG b1 cs1 b2 cs2 = codeB b1 cs1 b2 cs2 by unfold codeG; rw [if_pos hch])
    have HCH := Lib.hid hch
    clear hch
    go_wp2
    refine bodyPost_ret (v := .tuple #[.agg #[.int .i64 0, .slice none 0 0], .int .i64 (codeB b1 cs1 b2 cs2)]) (by simp [results, Tryd.results22, go_sem, k2_0, k2_1]) rfl (HistPost.none (HCH.out) HCC.out ?_)
    repeat (first | exact HST1.out.below | (refine Below.setCell ?_ (by dsimp only; omega) _))
end Go.Proofs.YtgmbgclhljobaaaDoor
