/- The reference's Merge. -/
import Derived.Test.YtgmbgclhljobaaaDoorRBuck
import Derived.Test.YtgmbgclhljobaaaDoorMerge
import Derived.StillTailTactics
namespace Go.Proofs.YtgmbgclhljobaaaDoor
open Go Go.RowKit Go.Proofs Go.Maps

/-- what the loop of the reference's Merge keeps -/
def RMeRel (w wr : World) (bs : List (Nat × Obj)) (O : Nat) (d : Int) (L : Nat) (cs1 cs2 : List (Int × Int)) (k : Nat) : Prop :=
  k ≤ cs2.length ∧ ∃ A c cs, St w wr (bs ++ [(O, Obj.cells #[Value.int .i64 d, Value.slice A cs.length c] 24 (0, 0))]) ∧ IsHist (sumAt id (cs1 ++ cs2.take k)) cs ∧ Rd wr L wr.heap.size 2 A cs.length (cells2 cs)

attribute [local go_sem ↓] Go.wp_at_zero Go.wp_at_succ

set_option maxHeartbeats 3000000 in
set_option maxRecDepth 100000 in
theorem RMerge_any (b1 b2 : Int) (A1 A2 : Option Addr) (c1 c2 : Nat) (cs1 cs2 : List (Int × Int)) (w : World) (hr1 : Rd w 0 w.heap.size 2 A1 cs1.length (cells2 cs1)) (hr2 : Rd w 0 w.heap.size 2 A2 cs2.length (cells2 cs2)) (hn1 : cs1.length < 9223372036854775807) (hn2 : cs2.length < 9223372036854775807) (hx1 : ∀ c ∈ cs1, c.1 ≤ 9223372036854775807) (hx2 : ∀ c ∈ cs2, c.1 ≤ 9223372036854775807) :
    Calls Tryd.prog 23 #[.agg #[.int .i64 b1, .slice A1 cs1.length c1], .agg #[.int .i64 b2, .slice A2 cs2.length c2]] w (HistPost (sumAt id (cs1 ++ cs2)) b1 (codeG b1 cs1 b2 cs2) w) := by
  obtain ⟨W0, hW0⟩ : ∃ W0, W0 = (((w).alloc (.cells #[Value.int .i64 b1, Value.slice A1 cs1.length c1] 24)).alloc (.cells #[Value.int .i64 b2, Value.slice A2 cs2.length c2] 24)).alloc (.cells #[Value.int .i64 0, Value.slice none 0 0] 24) := ⟨_, rfl⟩
  have st0 : St w W0 [(w.heap.size, Obj.cells #[Value.int .i64 b1, Value.slice A1 cs1.length c1] 24 (0, 0)), (w.heap.size + 1, Obj.cells #[Value.int .i64 b2, Value.slice A2 cs2.length c2] 24 (0, 0)), (w.heap.size + 1 + 1, Obj.cells #[Value.int .i64 0, Value.slice none 0 0] 24 (0, 0))] := by rw [hW0]; exact (((St.start w).alloc _ _ (by simp)).alloc _ _ (by simp)).alloc _ _ (by simp)
  have hs0 : W0.heap.size = w.heap.size + 1 + 1 + 1 := by rw [hW0]; simp
  have hsz0 : w.heap.size + 1 + 1 + 1 ≤ W0.heap.size := by omega
  have HST0 := Lib.hid st0
  have HS0 := Lib.hid hs0
  have HC := Lib.hid (pairFault_any b1 b2 A1 A2 c1 c2 cs1 cs2 W0 (hr1.old st0.below) (hr2.old st0.below) hn1 hn2 hx1 hx2)
  have HR1 := Lib.hid hr1
  have HR2 := Lib.hid hr2
  clear hr1 hr2 hx1 hx2
  clear st0 hs0
  go_enter Tryd.func23, Tryd.ntmps23
  go_wp2_with fail
  rw [← hW0]
  clear hW0
  go_wp2_with fail
  refine HC.out.mono ?_
  rintro e w1 ⟨rfl, hb1'⟩
  have HST1 := Lib.hid (HST0.out.call hb1')
  have hsz1 := hb1'.size
  clear hb1'
  have k0_0 : w1.cell? ⟨w.heap.size, 0, none⟩ = some (Value.int .i64 b1) := HST1.out.cell 0 0 rfl rfl
  have k0_1 : w1.cell? ⟨w.heap.size, 1, none⟩ = some (Value.slice A1 cs1.length c1) := HST1.out.cell 0 1 rfl rfl
  have l0_ : w.heap.size < w1.heap.size := HST1.out.lt 0 rfl
  have k1_0 : w1.cell? ⟨w.heap.size + 1, 0, none⟩ = some (Value.int .i64 b2) := HST1.out.cell 1 0 rfl rfl
  have k1_1 : w1.cell? ⟨w.heap.size + 1, 1, none⟩ = some (Value.slice A2 cs2.length c2) := HST1.out.cell 1 1 rfl rfl
  have l1_ : w.heap.size + 1 < w1.heap.size := HST1.out.lt 1 rfl
  have k2_0 : w1.cell? ⟨w.heap.size + 1 + 1, 0, none⟩ = some (Value.int .i64 0) := HST1.out.cell 2 0 rfl rfl
  have z2_0 : w1.frozen? ⟨w.heap.size + 1 + 1, 0, none⟩ = false := HST1.out.frozen 2 0 rfl
  have k2_1 : w1.cell? ⟨w.heap.size + 1 + 1, 1, none⟩ = some (Value.slice none 0 0) := HST1.out.cell 2 1 rfl rfl
  have z2_1 : w1.frozen? ⟨w.heap.size + 1 + 1, 1, none⟩ = false := HST1.out.frozen 2 1 rfl
  have l2_ : w.heap.size + 1 + 1 < w1.heap.size := HST1.out.lt 2 rfl
  by_cases hch : codeB b1 cs1 b2 cs2 = 0
  · have hch' : (codeB b1 cs1 b2 cs2 != 0) = false := by simp [hch]
    obtain ⟨hg1, hg2, hbb⟩ := codeB_zero hch
    subst hbb
    have HCG := Lib.hid (show codeG b2 cs1 b2 cs2 = codeM cs1 cs2 by unfold codeG; rw [if_neg (by rw [hch]; simp)])
    obtain ⟨hb2, hb8, hlen1, hcs1, _, htot1⟩ := id hg1
    obtain ⟨_, _, hlen2, hcs2, hso2, htot2⟩ := id hg2
    have htd1 := tot_bd cs1 (fun c hc => (hcs1 c hc).2)
    have htd2 := tot_bd cs2 (fun c hc => (hcs2 c hc).2)
    have hmx := maxB_bd b2 hb2 hb8
    have HT1 := Lib.hid (fun W' (hb : Below w1.heap.size w1 W') => rtotal_any b2 A1 cs1.length c1 cs1 W' (HR1.out.old (HST1.out.old hb)) (fun c hc => (hcs1 c hc).2) hlen1)
    have HT2 := Lib.hid (fun W' (hb : Below w1.heap.size w1 W') => rtotal_any b2 A2 cs2.length c2 cs2 W' (HR2.out.old (HST1.out.old hb)) (fun c hc => (hcs2 c hc).2) hlen2)
    have HG1 := Lib.hid hg1
    have HG2 := Lib.hid hg2
    have HCS1 := Lib.hid hcs1
    have HCS2 := Lib.hid hcs2
    clear hch hg1 hg2 hcs1 hcs2 hso2
    go_wp2
    have hwr : IntKind.i64.wrap (tot cs1 + tot cs2) = tot cs1 + tot cs2 := IntWalk.i64_in _ (by omega)
    by_cases hbig : 1125899906842624 < tot cs1 + tot cs2
    · have hbig' : decide (1125899906842624 < tot cs1 + tot cs2) = true := by simpa using hbig
      have HCC := Lib.hid (HCG.out.trans (show codeM cs1 cs2 = 3 by unfold codeM; rw [if_pos hbig]))
      have HKS := Lib.hid (show ∀ w', Below w1.heap.size w1 w' → w'.cell? ⟨w.heap.size, 0, none⟩ = some (Value.int .i64 b2) ∧ w'.cell? ⟨w.heap.size, 1, none⟩ = some (Value.slice A1 cs1.length c1) ∧ w'.cell? ⟨w.heap.size + 1, 0, none⟩ = some (Value.int .i64 b2) ∧ w'.cell? ⟨w.heap.size + 1, 1, none⟩ = some (Value.slice A2 cs2.length c2) ∧ w'.cell? ⟨w.heap.size + 1 + 1, 0, none⟩ = some (Value.int .i64 0) ∧ w'.cell? ⟨w.heap.size + 1 + 1, 1, none⟩ = some (Value.slice none 0 0) ∧ Below w1.heap.size w1 w' from fun w' hb => ⟨(HST1.out.call hb).cell 0 0 rfl rfl, (HST1.out.call hb).cell 0 1 rfl rfl, (HST1.out.call hb).cell 1 0 rfl rfl, (HST1.out.call hb).cell 1 1 rfl rfl, (HST1.out.call hb).cell 2 0 rfl rfl, (HST1.out.call hb).cell 2 1 rfl rfl, hb⟩)
      clear k0_0 k0_1 l0_ k1_0 k1_1 l1_ k2_0 z2_0 k2_1 z2_1 l2_
      have k0_0 : w1.cell? ⟨w.heap.size, 0, none⟩ = some (Value.int .i64 b2) := HST1.out.cell 0 0 rfl rfl
      have k0_1 : w1.cell? ⟨w.heap.size, 1, none⟩ = some (Value.slice A1 cs1.length c1) := HST1.out.cell 0 1 rfl rfl
      have l0_ : w.heap.size < w1.heap.size := HST1.out.lt 0 rfl
      have k1_0 : w1.cell? ⟨w.heap.size + 1, 0, none⟩ = some (Value.int .i64 b2) := HST1.out.cell 1 0 rfl rfl
      have k1_1 : w1.cell? ⟨w.heap.size + 1, 1, none⟩ = some (Value.slice A2 cs2.length c2) := HST1.out.cell 1 1 rfl rfl
      have l1_ : w.heap.size + 1 < w1.heap.size := HST1.out.lt 1 rfl
      have k2_0 : w1.cell? ⟨w.heap.size + 1 + 1, 0, none⟩ = some (Value.int .i64 0) := HST1.out.cell 2 0 rfl rfl
      have z2_0 : w1.frozen? ⟨w.heap.size + 1 + 1, 0, none⟩ = false := HST1.out.frozen 2 0 rfl
      have k2_1 : w1.cell? ⟨w.heap.size + 1 + 1, 1, none⟩ = some (Value.slice none 0 0) := HST1.out.cell 2 1 rfl rfl
      have z2_1 : w1.frozen? ⟨w.heap.size + 1 + 1, 1, none⟩ = false := HST1.out.frozen 2 1 rfl
      have l2_ : w.heap.size + 1 + 1 < w1.heap.size := HST1.out.lt 2 rfl
      go_region_held3 (fun w' => w'.cell? ⟨w.heap.size, 0, none⟩ = some (Value.int .i64 b2) ∧ w'.cell? ⟨w.heap.size, 1, none⟩ = some (Value.slice A1 cs1.length c1) ∧ w'.cell? ⟨w.heap.size + 1, 0, none⟩ = some (Value.int .i64 b2) ∧ w'.cell? ⟨w.heap.size + 1, 1, none⟩ = some (Value.slice A2 cs2.length c2) ∧ w'.cell? ⟨w.heap.size + 1 + 1, 0, none⟩ = some (Value.int .i64 0) ∧ w'.cell? ⟨w.heap.size + 1 + 1, 1, none⟩ = some (Value.slice none 0 0) ∧ Below w1.heap.size w1 w')
        (first
          | exact HKS.out _ (Below.refl _ w1).drew
          | (go_split_ands; refine HKS.out _ (below_next ?_ hbA); assumption)
          | (go_split_ands; refine HKS.out _ (below_next ?_ hbB); assumption))
        (first
          | (go_at_call_of 59 (Value.agg #[.int .i64 b2, .slice A1 cs1.length c1]); refine (HT1.out _ ?_).mono ?_; (go_split_ands; assumption); rintro e wA ⟨rfl, hbA⟩)
          | (go_at_call_of 59 (Value.agg #[.int .i64 b2, .slice A2 cs2.length c2]); refine (HT2.out _ ?_).mono ?_; (go_split_ands; assumption); rintro e wB ⟨rfl, hbB⟩))
      have hbel2 : Below w1.heap.size w1 wB := by go_split_ands; assumption
      have HST2 := Lib.hid (HST1.out.call hbel2)
      have hsz2 := hbel2.size
      clear k0_0 k0_1 l0_ k1_0 k1_1 l1_ k2_0 z2_0 k2_1 z2_1 l2_
      have HBEL2 := Lib.hid hbel2
      clear hbel2
      have k0_0 : wB.cell? ⟨w.heap.size, 0, none⟩ = some (Value.int .i64 b2) := HST2.out.cell 0 0 rfl rfl
      have k0_1 : wB.cell? ⟨w.heap.size, 1, none⟩ = some (Value.slice A1 cs1.length c1) := HST2.out.cell 0 1 rfl rfl
      have l0_ : w.heap.size < wB.heap.size := HST2.out.lt 0 rfl
      have k1_0 : wB.cell? ⟨w.heap.size + 1, 0, none⟩ = some (Value.int .i64 b2) := HST2.out.cell 1 0 rfl rfl
      have k1_1 : wB.cell? ⟨w.heap.size + 1, 1, none⟩ = some (Value.slice A2 cs2.length c2) := HST2.out.cell 1 1 rfl rfl
      have l1_ : w.heap.size + 1 < wB.heap.size := HST2.out.lt 1 rfl
      have k2_0 : wB.cell? ⟨w.heap.size + 1 + 1, 0, none⟩ = some (Value.int .i64 0) := HST2.out.cell 2 0 rfl rfl
      have z2_0 : wB.frozen? ⟨w.heap.size + 1 + 1, 0, none⟩ = false := HST2.out.frozen 2 0 rfl
      have k2_1 : wB.cell? ⟨w.heap.size + 1 + 1, 1, none⟩ = some (Value.slice none 0 0) := HST2.out.cell 2 1 rfl rfl
      have z2_1 : wB.frozen? ⟨w.heap.size + 1 + 1, 1, none⟩ = false := HST2.out.frozen 2 1 rfl
      have l2_ : w.heap.size + 1 + 1 < wB.heap.size := HST2.out.lt 2 rfl
      clear hbA hbB hwr HKS
      go_wp2
      refine bodyPost_ret (v := .tuple #[.agg #[.int .i64 0, .slice none 0 0], .int .i64 (3)]) (by simp [results, Tryd.results23, go_sem, k2_0, k2_1]) rfl (HistPost.none (by omega) HCC.out ?_)
      repeat (first | exact HST2.out.below | (refine Below.setCell ?_ (by dsimp only; omega) _))
    · have hbig' : decide (1125899906842624 < tot cs1 + tot cs2) = false := by simpa using hbig
      have HCC := Lib.hid (HCG.out.trans (show codeM cs1 cs2 = 0 by unfold codeM; rw [if_neg hbig]))
      have HKS := Lib.hid (show ∀ w', Below w1.heap.size w1 w' → w'.cell? ⟨w.heap.size, 0, none⟩ = some (Value.int .i64 b2) ∧ w'.cell? ⟨w.heap.size, 1, none⟩ = some (Value.slice A1 cs1.length c1) ∧ w'.cell? ⟨w.heap.size + 1, 0, none⟩ = some (Value.int .i64 b2) ∧ w'.cell? ⟨w.heap.size + 1, 1, none⟩ = some (Value.slice A2 cs2.length c2) ∧ w'.cell? ⟨w.heap.size + 1 + 1, 0, none⟩ = some (Value.int .i64 0) ∧ w'.cell? ⟨w.heap.size + 1 + 1, 1, none⟩ = some (Value.slice none 0 0) ∧ Below w1.heap.size w1 w' from fun w' hb => ⟨(HST1.out.call hb).cell 0 0 rfl rfl, (HST1.out.call hb).cell 0 1 rfl rfl, (HST1.out.call hb).cell 1 0 rfl rfl, (HST1.out.call hb).cell 1 1 rfl rfl, (HST1.out.call hb).cell 2 0 rfl rfl, (HST1.out.call hb).cell 2 1 rfl rfl, hb⟩)
      clear k0_0 k0_1 l0_ k1_0 k1_1 l1_ k2_0 z2_0 k2_1 z2_1 l2_
      have k0_0 : w1.cell? ⟨w.heap.size, 0, none⟩ = some (Value.int .i64 b2) := HST1.out.cell 0 0 rfl rfl
      have k0_1 : w1.cell? ⟨w.heap.size, 1, none⟩ = some (Value.slice A1 cs1.length c1) := HST1.out.cell 0 1 rfl rfl
      have l0_ : w.heap.size < w1.heap.size := HST1.out.lt 0 rfl
      have k1_0 : w1.cell? ⟨w.heap.size + 1, 0, none⟩ = some (Value.int .i64 b2) := HST1.out.cell 1 0 rfl rfl
      have k1_1 : w1.cell? ⟨w.heap.size + 1, 1, none⟩ = some (Value.slice A2 cs2.length c2) := HST1.out.cell 1 1 rfl rfl
      have l1_ : w.heap.size + 1 < w1.heap.size := HST1.out.lt 1 rfl
      have k2_0 : w1.cell? ⟨w.heap.size + 1 + 1, 0, none⟩ = some (Value.int .i64 0) := HST1.out.cell 2 0 rfl rfl
      have z2_0 : w1.frozen? ⟨w.heap.size + 1 + 1, 0, none⟩ = false := HST1.out.frozen 2 0 rfl
      have k2_1 : w1.cell? ⟨w.heap.size + 1 + 1, 1, none⟩ = some (Value.slice none 0 0) := HST1.out.cell 2 1 rfl rfl
      have z2_1 : w1.frozen? ⟨w.heap.size + 1 + 1, 1, none⟩ = false := HST1.out.frozen 2 1 rfl
      have l2_ : w.heap.size + 1 + 1 < w1.heap.size := HST1.out.lt 2 rfl
      go_region_held3 (fun w' => w'.cell? ⟨w.heap.size, 0, none⟩ = some (Value.int .i64 b2) ∧ w'.cell? ⟨w.heap.size, 1, none⟩ = some (Value.slice A1 cs1.length c1) ∧ w'.cell? ⟨w.heap.size + 1, 0, none⟩ = some (Value.int .i64 b2) ∧ w'.cell? ⟨w.heap.size + 1, 1, none⟩ = some (Value.slice A2 cs2.length c2) ∧ w'.cell? ⟨w.heap.size + 1 + 1, 0, none⟩ = some (Value.int .i64 0) ∧ w'.cell? ⟨w.heap.size + 1 + 1, 1, none⟩ = some (Value.slice none 0 0) ∧ Below w1.heap.size w1 w')
        (first
          | exact HKS.out _ (Below.refl _ w1).drew
          | (go_split_ands; refine HKS.out _ (below_next ?_ hbA); assumption)
          | (go_split_ands; refine HKS.out _ (below_next ?_ hbB); assumption))
        (first
          | (go_at_call_of 59 (Value.agg #[.int .i64 b2, .slice A1 cs1.length c1]); refine (HT1.out _ ?_).mono ?_; (go_split_ands; assumption); rintro e wA ⟨rfl, hbA⟩)
          | (go_at_call_of 59 (Value.agg #[.int .i64 b2, .slice A2 cs2.length c2]); refine (HT2.out _ ?_).mono ?_; (go_split_ands; assumption); rintro e wB ⟨rfl, hbB⟩))
      have hbel2 : Below w1.heap.size w1 wB := by go_split_ands; assumption
      have HST2 := Lib.hid (HST1.out.call hbel2)
      have hsz2 := hbel2.size
      clear k0_0 k0_1 l0_ k1_0 k1_1 l1_ k2_0 z2_0 k2_1 z2_1 l2_
      have HBEL2 := Lib.hid hbel2
      clear hbel2
      have k0_0 : wB.cell? ⟨w.heap.size, 0, none⟩ = some (Value.int .i64 b2) := HST2.out.cell 0 0 rfl rfl
      have k0_1 : wB.cell? ⟨w.heap.size, 1, none⟩ = some (Value.slice A1 cs1.length c1) := HST2.out.cell 0 1 rfl rfl
      have l0_ : w.heap.size < wB.heap.size := HST2.out.lt 0 rfl
      have k1_0 : wB.cell? ⟨w.heap.size + 1, 0, none⟩ = some (Value.int .i64 b2) := HST2.out.cell 1 0 rfl rfl
      have k1_1 : wB.cell? ⟨w.heap.size + 1, 1, none⟩ = some (Value.slice A2 cs2.length c2) := HST2.out.cell 1 1 rfl rfl
      have l1_ : w.heap.size + 1 < wB.heap.size := HST2.out.lt 1 rfl
      have k2_0 : wB.cell? ⟨w.heap.size + 1 + 1, 0, none⟩ = some (Value.int .i64 0) := HST2.out.cell 2 0 rfl rfl
      have z2_0 : wB.frozen? ⟨w.heap.size + 1 + 1, 0, none⟩ = false := HST2.out.frozen 2 0 rfl
      have k2_1 : wB.cell? ⟨w.heap.size + 1 + 1, 1, none⟩ = some (Value.slice none 0 0) := HST2.out.cell 2 1 rfl rfl
      have z2_1 : wB.frozen? ⟨w.heap.size + 1 + 1, 1, none⟩ = false := HST2.out.frozen 2 1 rfl
      have l2_ : w.heap.size + 1 + 1 < wB.heap.size := HST2.out.lt 2 rfl
      clear hbA hbB hwr HKS
      have hm0 := more_any b2 0 0 A1 c1 cs1 wB (HR1.out.old HST2.out.below) (by omega) (by omega) (by omega) (fun c hc => by have := HCS1.out c hc; omega)
      rw [show moreL 0 0 cs1 = cs1 by rw [moreL_eq, if_pos rfl]] at hm0
      have HM0 := Lib.hid hm0
      clear hm0
      go_wp2_with fail
      refine HM0.out.mono ?_
      rintro e w3 ⟨u, rfl, ⟨A0, c0, rfl, hlc, hcm, hA0, hrd⟩, hb3⟩
      have HST3 := Lib.hid (HST2.out.call hb3)
      have hsz3 := hb3.size
      clear k0_0 k0_1 l0_ k1_0 k1_1 l1_ k2_0 z2_0 k2_1 z2_1 l2_
      clear hb3
      have k0_0 : w3.cell? ⟨w.heap.size, 0, none⟩ = some (Value.int .i64 b2) := HST3.out.cell 0 0 rfl rfl
      have k0_1 : w3.cell? ⟨w.heap.size, 1, none⟩ = some (Value.slice A1 cs1.length c1) := HST3.out.cell 0 1 rfl rfl
      have l0_ : w.heap.size < w3.heap.size := HST3.out.lt 0 rfl
      have k1_0 : w3.cell? ⟨w.heap.size + 1, 0, none⟩ = some (Value.int .i64 b2) := HST3.out.cell 1 0 rfl rfl
      have k1_1 : w3.cell? ⟨w.heap.size + 1, 1, none⟩ = some (Value.slice A2 cs2.length c2) := HST3.out.cell 1 1 rfl rfl
      have l1_ : w.heap.size + 1 < w3.heap.size := HST3.out.lt 1 rfl
      have k2_0 : w3.cell? ⟨w.heap.size + 1 + 1, 0, none⟩ = some (Value.int .i64 0) := HST3.out.cell 2 0 rfl rfl
      have z2_0 : w3.frozen? ⟨w.heap.size + 1 + 1, 0, none⟩ = false := HST3.out.frozen 2 0 rfl
      have k2_1 : w3.cell? ⟨w.heap.size + 1 + 1, 1, none⟩ = some (Value.slice none 0 0) := HST3.out.cell 2 1 rfl rfl
      have z2_1 : w3.frozen? ⟨w.heap.size + 1 + 1, 1, none⟩ = false := HST3.out.frozen 2 1 rfl
      have l2_ : w.heap.size + 1 + 1 < w3.heap.size := HST3.out.lt 2 rfl
      clear hlc hcm hA0
      have HRD := Lib.hid hrd
      clear hrd
      have hl3 : w.heap.size + 1 + 1 < w3.heap.size := l2_
      go_wp2
      go_loopw [8] (fun i wr => ∃ k : Nat, i = .int .i64 k ∧ RMeRel w wr [(w.heap.size, Obj.cells #[Value.int .i64 b2, Value.slice A1 cs1.length c1] 24 (0, 0)), (w.heap.size + 1, Obj.cells #[Value.int .i64 b2, Value.slice A2 cs2.length c2] 24 (0, 0)), (w.heap.size + 1 + 1, Obj.cells #[Value.int .i64 0, Value.slice none 0 0] 24 (0, 0))] w3.heap.size b2 wB.heap.size cs1 cs2 k) (fun i _ => cs2.length - (intOf i).toNat)
      case atStart =>
        refine ⟨0, rfl, Nat.zero_le _, A0, c0, cs1, (HST3.out.alloc _ _ rfl), by simpa using HG1.out.hist, ?_⟩
        exact (HRD.out.alloc (Nat.le_refl _) _).more (Nat.le_refl _) (by simp)
      case round =>
        obtain ⟨k, rfl, hk, Ac, cc, csc, hst, hh, hrd⟩ := hrel
        have hsum := fun x => sumAt_bd id (cs1 ++ cs2.take k) x (fun c hc => by
          rcases List.mem_append.1 hc with h | h
          · have := HCS1.out c h; omega
          · have := HCS2.out c (List.mem_of_mem_take h); omega)
        have htt := tot_take_le cs2 (fun c hc => by have := HCS2.out c hc; omega) k
        have hta := tot_append cs1 (cs2.take k)
        have HTA2 := Lib.hid hta
        have HSUM := Lib.hid hsum
        have HSTr := Lib.hid hst
        have hl4 := hst.lt 3 rfl
        clear hsum hta hst
        by_cases hlt : k < cs2.length
        · obtain ⟨bk, o, x, m, rfl, _, hbk, hx, q0, q1⟩ := (HR2.out.below HSTr.out.below (Nat.le_refl _)).at2 hlt
          have hcx := HCS2.out (x, m) (List.mem_of_getElem? hx)
          obtain ⟨⟨hx0', hx1'⟩, hm1, hm2⟩ := hcx
          simp only at hx0' hx1' hm1 hm2
          have hbl : bk < wr.heap.size := by have := HSTr.out.below.size; omega
          have hgc : csc.length ≤ 10000000 := by
            have := hist_len hh (maxB b2) (fun y hy => by
              obtain ⟨c', hc', e⟩ := sumAt_ne _ _ _ hy
              simp only [id] at e
              rw [← e]
              rcases List.mem_append.1 hc' with h | h
              · exact (HCS1.out c' h).1
              · exact (HCS2.out c' (List.mem_of_mem_take h)).1)
            omega
          have hnum := hist_num hh (fun y => by have := HSUM.out y; rw [HTA2.out] at this; omega)
          have HM := Lib.hid (more_any b2 x m Ac cc csc wr.drew (hrd.more (Nat.zero_le _) (Nat.le_refl _)) hgc (by omega) (by omega) hnum)
          have HNH := Lib.hid (more_hist hh (fun y => (HSUM.out y).1) x m (by omega))
          have HX := Lib.hid hx
          have hkk : (0 : Int) ≤ (k : Int) := by omega
          have hkn : (k : Int) < (cs2.length : Int) := by omega
          clear hh hrd hx hgc hnum
          clear k0_0 k0_1 l0_ k1_0 k1_1 l1_ k2_0 z2_0 k2_1 z2_1 l2_
          have k0_0 : wr.cell? ⟨w.heap.size, 0, none⟩ = some (Value.int .i64 b2) := HSTr.out.cell 0 0 rfl rfl
          have k0_1 : wr.cell? ⟨w.heap.size, 1, none⟩ = some (Value.slice A1 cs1.length c1) := HSTr.out.cell 0 1 rfl rfl
          have l0_ : w.heap.size < wr.heap.size := HSTr.out.lt 0 rfl
          have k1_0 : wr.cell? ⟨w.heap.size + 1, 0, none⟩ = some (Value.int .i64 b2) := HSTr.out.cell 1 0 rfl rfl
          have k1_1 : wr.cell? ⟨w.heap.size + 1, 1, none⟩ = some (Value.slice (some ⟨bk, o, none⟩) cs2.length c2) := HSTr.out.cell 1 1 rfl rfl
          have l1_ : w.heap.size + 1 < wr.heap.size := HSTr.out.lt 1 rfl
          have k2_0 : wr.cell? ⟨w.heap.size + 1 + 1, 0, none⟩ = some (Value.int .i64 0) := HSTr.out.cell 2 0 rfl rfl
          have z2_0 : wr.frozen? ⟨w.heap.size + 1 + 1, 0, none⟩ = false := HSTr.out.frozen 2 0 rfl
          have k2_1 : wr.cell? ⟨w.heap.size + 1 + 1, 1, none⟩ = some (Value.slice none 0 0) := HSTr.out.cell 2 1 rfl rfl
          have z2_1 : wr.frozen? ⟨w.heap.size + 1 + 1, 1, none⟩ = false := HSTr.out.frozen 2 1 rfl
          have l2_ : w.heap.size + 1 + 1 < wr.heap.size := HSTr.out.lt 2 rfl
          have k3_0 : wr.cell? ⟨w3.heap.size, 0, none⟩ = some (Value.int .i64 b2) := HSTr.out.cell 3 0 rfl rfl
          have z3_0 : wr.frozen? ⟨w3.heap.size, 0, none⟩ = false := HSTr.out.frozen 3 0 rfl
          have k3_1 : wr.cell? ⟨w3.heap.size, 1, none⟩ = some (Value.slice Ac csc.length cc) := HSTr.out.cell 3 1 rfl rfl
          have z3_1 : wr.frozen? ⟨w3.heap.size, 1, none⟩ = false := HSTr.out.frozen 3 1 rfl
          have l3_ : w3.heap.size < wr.heap.size := HSTr.out.lt 3 rfl
          go_wp2
          refine wp_region_still_tail 13 mixed (by kernel_rfl) ?_
          simp only [List.take_succ_cons, List.take_zero, List.drop_succ_cons, List.drop_zero]
          repeat still_step
          refine wpStill_nil ?_
          change wpList _ _ _ _ _ wr.drew
          have HSTd := Lib.hid HSTr.out.drew
          go_wp2_with fail
          refine HM.out.mono ?_
          rintro e w5 ⟨u, rfl, ⟨A5, c5, rfl, hlc, hcm, hA5, hrd5⟩, hb5⟩
          have HST5 := Lib.hid (HSTd.out.call hb5)
          have hsz5 := hb5.size
          clear k0_0 k0_1 l0_ k1_0 k1_1 l1_ k2_0 z2_0 k2_1 z2_1 l2_ k3_0 z3_0 k3_1 z3_1 l3_
          have k0_0 : w5.cell? ⟨w.heap.size, 0, none⟩ = some (Value.int .i64 b2) := HST5.out.cell 0 0 rfl rfl
          have k0_1 : w5.cell? ⟨w.heap.size, 1, none⟩ = some (Value.slice A1 cs1.length c1) := HST5.out.cell 0 1 rfl rfl
          have l0_ : w.heap.size < w5.heap.size := HST5.out.lt 0 rfl
          have k1_0 : w5.cell? ⟨w.heap.size + 1, 0, none⟩ = some (Value.int .i64 b2) := HST5.out.cell 1 0 rfl rfl
          have k1_1 : w5.cell? ⟨w.heap.size + 1, 1, none⟩ = some (Value.slice (some ⟨bk, o, none⟩) cs2.length c2) := HST5.out.cell 1 1 rfl rfl
          have l1_ : w.heap.size + 1 < w5.heap.size := HST5.out.lt 1 rfl
          have k2_0 : w5.cell? ⟨w.heap.size + 1 + 1, 0, none⟩ = some (Value.int .i64 0) := HST5.out.cell 2 0 rfl rfl
          have z2_0 : w5.frozen? ⟨w.heap.size + 1 + 1, 0, none⟩ = false := HST5.out.frozen 2 0 rfl
          have k2_1 : w5.cell? ⟨w.heap.size + 1 + 1, 1, none⟩ = some (Value.slice none 0 0) := HST5.out.cell 2 1 rfl rfl
          have z2_1 : w5.frozen? ⟨w.heap.size + 1 + 1, 1, none⟩ = false := HST5.out.frozen 2 1 rfl
          have l2_ : w.heap.size + 1 + 1 < w5.heap.size := HST5.out.lt 2 rfl
          have k3_0 : w5.cell? ⟨w3.heap.size, 0, none⟩ = some (Value.int .i64 b2) := HST5.out.cell 3 0 rfl rfl
          have z3_0 : w5.frozen? ⟨w3.heap.size, 0, none⟩ = false := HST5.out.frozen 3 0 rfl
          have k3_1 : w5.cell? ⟨w3.heap.size, 1, none⟩ = some (Value.slice Ac csc.length cc) := HST5.out.cell 3 1 rfl rfl
          have z3_1 : w5.frozen? ⟨w3.heap.size, 1, none⟩ = false := HST5.out.frozen 3 1 rfl
          have l3_ : w3.heap.size < w5.heap.size := HST5.out.lt 3 rfl
          have HRD5 := Lib.hid hrd5
          have hsz6 : wr.heap.size ≤ w5.heap.size := hb5.size
          clear hlc hcm hA5 hrd5 hb5 q0 q1
          go_wp2
          go_roundw
          case rel =>
            refine ⟨k + 1, by go_num, by omega, A5, c5, moreL x m csc, ?_, ?_, ?_⟩
            · exact St.setLast [(w.heap.size, Obj.cells #[Value.int .i64 b2, Value.slice A1 cs1.length c1] 24 (0, 0)), (w.heap.size + 1, Obj.cells #[Value.int .i64 b2, Value.slice (some ⟨bk, o, none⟩) cs2.length c2] 24 (0, 0)), (w.heap.size + 1 + 1, Obj.cells #[Value.int .i64 0, Value.slice none 0 0] 24 (0, 0))] 1 _ (St.setLast [(w.heap.size, Obj.cells #[Value.int .i64 b2, Value.slice A1 cs1.length c1] 24 (0, 0)), (w.heap.size + 1, Obj.cells #[Value.int .i64 b2, Value.slice (some ⟨bk, o, none⟩) cs2.length c2] 24 (0, 0)), (w.heap.size + 1 + 1, Obj.cells #[Value.int .i64 0, Value.slice none 0 0] 24 (0, 0))] 0 _ HST5.out (by simp; omega)) (by simp; omega)
            · have h1 := HNH.out
              have h2 := sumAt_snoc id (cs1 ++ cs2.take k) x m
              rw [show id x = x from rfl] at h2
              rw [h2, List.append_assoc] at h1
              rw [List.take_add_one, HX.out]; exact h1
            · refine (HRD5.out.fr (may := fun i => i = w3.heap.size) (w' := _) ?_ (Nat.le_refl _) (fun i hi _ => by have : wr.heap.size ≤ i := hi; omega)).more (show wB.heap.size ≤ wr.heap.size by omega) ?_
              · repeat (first | exact Fr.refl _ _ | (refine Fr.setCell ?_ (fun _ => by dsimp only) _))
              · simp [World.setCell]
          case measure => simp [intOf]; omega
        · have htk : cs2.take k = cs2 := List.take_of_length_le (by omega)
          rw [htk] at hh
          have HH := Lib.hid hh
          have HRD2 := Lib.hid hrd
          clear hh hrd htk
          clear k0_0 k0_1 l0_ k1_0 k1_1 l1_ k2_0 z2_0 k2_1 z2_1 l2_
          have k0_0 : wr.cell? ⟨w.heap.size, 0, none⟩ = some (Value.int .i64 b2) := HSTr.out.cell 0 0 rfl rfl
          have k0_1 : wr.cell? ⟨w.heap.size, 1, none⟩ = some (Value.slice A1 cs1.length c1) := HSTr.out.cell 0 1 rfl rfl
          have l0_ : w.heap.size < wr.heap.size := HSTr.out.lt 0 rfl
          have k1_0 : wr.cell? ⟨w.heap.size + 1, 0, none⟩ = some (Value.int .i64 b2) := HSTr.out.cell 1 0 rfl rfl
          have k1_1 : wr.cell? ⟨w.heap.size + 1, 1, none⟩ = some (Value.slice A2 cs2.length c2) := HSTr.out.cell 1 1 rfl rfl
          have l1_ : w.heap.size + 1 < wr.heap.size := HSTr.out.lt 1 rfl
          have k2_0 : wr.cell? ⟨w.heap.size + 1 + 1, 0, none⟩ = some (Value.int .i64 0) := HSTr.out.cell 2 0 rfl rfl
          have z2_0 : wr.frozen? ⟨w.heap.size + 1 + 1, 0, none⟩ = false := HSTr.out.frozen 2 0 rfl
          have k2_1 : wr.cell? ⟨w.heap.size + 1 + 1, 1, none⟩ = some (Value.slice none 0 0) := HSTr.out.cell 2 1 rfl rfl
          have z2_1 : wr.frozen? ⟨w.heap.size + 1 + 1, 1, none⟩ = false := HSTr.out.frozen 2 1 rfl
          have l2_ : w.heap.size + 1 + 1 < wr.heap.size := HSTr.out.lt 2 rfl
          have k3_0 : wr.cell? ⟨w3.heap.size, 0, none⟩ = some (Value.int .i64 b2) := HSTr.out.cell 3 0 rfl rfl
          have z3_0 : wr.frozen? ⟨w3.heap.size, 0, none⟩ = false := HSTr.out.frozen 3 0 rfl
          have k3_1 : wr.cell? ⟨w3.heap.size, 1, none⟩ = some (Value.slice Ac csc.length cc) := HSTr.out.cell 3 1 rfl rfl
          have z3_1 : wr.frozen? ⟨w3.heap.size, 1, none⟩ = false := HSTr.out.frozen 3 1 rfl
          have l3_ : w3.heap.size < wr.heap.size := HSTr.out.lt 3 rfl
          go_wp2
          refine bodyPost_ret (v := .tuple #[.agg #[.int .i64 b2, .slice Ac csc.length cc], .int .i64 0]) (by simp [results, Tryd.results23, go_sem, k2_0, k2_1]) rfl (HistPost.some HCC.out HH.out HRD2.out (by omega) HSTr.out.below ?_)
          repeat (first | exact Fr.refl _ _ | (refine Fr.setCell ?_ (fun _ => by dsimp only; omega) _))
  · have hch' : (codeB b1 cs1 b2 cs2 != 0) = true := by simp [hch]
    have HCC := Lib.hid (show codeG b1 cs1 b2 cs2 = codeB b1 cs1 b2 cs2 by unfold codeG; rw [if_pos hch])
    have HCH := Lib.hid hch
    clear hch
    go_wp2
    refine bodyPost_ret (v := .tuple #[.agg #[.int .i64 0, .slice none 0 0], .int .i64 (codeB b1 cs1 b2 cs2)]) (by simp [results, Tryd.results23, go_sem, k2_0, k2_1]) rfl (HistPost.none (HCH.out) HCC.out ?_)
    repeat (first | exact HST1.out.below | (refine Below.setCell ?_ (by dsimp only; omega) _))
end Go.Proofs.YtgmbgclhljobaaaDoor
