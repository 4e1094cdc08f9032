/- Package measure: below. Printed by gen_below.py. -/
import Derived.Test.YtepfmoaihhonlaaGreatDoorQnt
import Derived.Test.YtepfmoaihhonlaaGreatDoorG10
namespace Go.Proofs.YtepfmoaihhonlaaGreatDoor
open Go Go.RowKit Go.Proofs Go.Shelf

attribute [local go_sem] Oper.semAt_some
def bBoxes (w : World) (b : Int) (A : Option Addr) (n c : Nat) (v le mo : Int) : List (Nat × Obj) :=
  [(w.heap.size, .cells #[.int .i64 b, .slice A n c] 53 (0, 0)), (w.heap.size + 1, .cells #[.int .i64 v] 3 (0, 0)), (w.heap.size + 1 + 1, .cells #[.int .i64 le] 3 (0, 0)), (w.heap.size + 1 + 1 + 1, .cells #[.int .i64 mo] 3 (0, 0))]
theorem bBoxes_set2 {w W : World} {b : Int} {A : Option Addr} {n c : Nat} {v le mo : Int} (h : St w W (bBoxes w b A n c v le mo)) (u : Int) : St w (W.setCell ⟨w.heap.size + 1 + 1, 0, none⟩ (.int .i64 u)) (bBoxes w b A n c v u mo) := by
  have := h.set 2 0 (.int .i64 u) (b := w.heap.size + 1 + 1) (cs := #[.int .i64 le]) (t := 3) (fz := (0, 0)) rfl (fun j b' o' hj hne => by
    rcases j with _ | _ | _ | _ | j
    · simp [bBoxes] at hj; omega
    · simp [bBoxes] at hj; omega
    · exact absurd rfl hne
    · simp [bBoxes] at hj; omega
    · simp [bBoxes] at hj)
  simpa [bBoxes] using this
theorem bBoxes_set3 {w W : World} {b : Int} {A : Option Addr} {n c : Nat} {v le mo : Int} (h : St w W (bBoxes w b A n c v le mo)) (u : Int) : St w (W.setCell ⟨w.heap.size + 1 + 1 + 1, 0, none⟩ (.int .i64 u)) (bBoxes w b A n c v le u) := by
  have := h.set 3 0 (.int .i64 u) (b := w.heap.size + 1 + 1 + 1) (cs := #[.int .i64 mo]) (t := 3) (fz := (0, 0)) rfl (fun j b' o' hj hne => by
    rcases j with _ | _ | _ | _ | j
    · simp [bBoxes] at hj; omega
    · simp [bBoxes] at hj; omega
    · simp [bBoxes] at hj; omega
    · exact absurd rfl hne
    · simp [bBoxes] at hj)
  simpa [bBoxes] using this

set_option maxHeartbeats 4000000 in
set_option maxRecDepth 100000 in
theorem below_any (b v : Int) (A : Option Addr) (c : Nat) (cs : List (Int × Int)) (w : World) (hr : Rd w 0 w.heap.size 2 A cs.length (cells2 cs)) (hg : Good b cs) :
    Calls Tryz.prog 100 #[.agg #[.int .i64 b, .slice A cs.length c], .int .i64 v] w fun e w' => e = .returned (.tuple #[.int .i64 (leB b v cs), .int .i64 (moB b v cs)]) ∧ Below w.heap.size w w' := by
  have HG := Lib.hid hg
  have HR := Lib.hid hr
  have HCS := Lib.hid (fun c hc => (hg.2.2.2.1 c hc).2)
  have HLE := Lib.hid (good_bel (v := v) hg)
  have hlen := hg.2.2.1
  obtain ⟨le0, hle0⟩ : ∃ z, z = leB b v cs := ⟨_, rfl⟩
  obtain ⟨mo0, hmo0⟩ : ∃ z, z = moB b v cs := ⟨_, rfl⟩
  rw [← hle0, ← hmo0] at HLE ⊢
  clear hg hr hle0 hmo0
  obtain ⟨W0, hW0⟩ : ∃ W0, W0 = (((w.alloc (.cells #[.int .i64 b, .slice A cs.length c] 53)).alloc (.cells #[.int .i64 v] 3)).alloc (.cells #[.int .i64 0] 3)).alloc (.cells #[.int .i64 0] 3) := ⟨_, rfl⟩
  have HST0 := Lib.hid (show St w W0 (bBoxes w b A cs.length c v 0 0) by
    rw [hW0]; exact ((((St.start w).alloc _ _ rfl).alloc _ _ (by simp)).alloc _ _ (by simp)).alloc _ _ (by simp))
  refine (callsIn_wide (n := 6)).1 ?_
  refine callsIn_of_wp_marks Tryz.func100 rfl trivial ?_ rfl
  simp only [Tryz.ntmps100, List.size_toArray, List.length_cons, List.length_nil, Nat.reduceAdd, Nat.reduceSub, Array.replicate_succ, Array.replicate_zero, List.push_toArray, List.append_toArray, List.nil_append, List.cons_append]
  gi_wp2_with fail
  rw [← hW0]
  clear hW0
  refine ⟨trivial, ?_⟩
  gi_at_call 104
  refine (buckets_in Fence.wide _ trivial rfl b A cs.length c W0).mono ?_
  rintro e w4 ⟨rfl, hw4⟩
  have HST5 := Lib.hid (show St w w4 (bBoxes w b A cs.length c v 0 0) by rw [hw4]; exact HST0.out.more _)
  have HBX := Lib.hid (show w4.heap[W0.heap.size]? = some (.cells #[.int .i64 b, .slice A cs.length c] 53 (0, 0)) by rw [hw4]; exact alloc_at _ _ _ rfl)
  have hs4 : W0.heap.size < w4.heap.size := heap_lt HBX.out
  have hs3 : w.heap.size + 1 + 1 + 1 < W0.heap.size := HST0.out.lt 3 rfl
  clear hw4
  gi_wp2_with fail
  refine wpIn_rangeFunc_ownH (w := w4) rfl (by omega) (gf := 157) (lb := #[.pointer (some ⟨W0.heap.size, 0, none⟩)]) rfl trivial (enters_of Tryz.func157 (by kernel_rfl) rfl)
    (bkts_stops Fence.wide _ trivial rfl (by omega) W0.heap.size w.heap.size w4.heap.size b A c cs hlen HCS.out w4 (by omega) (Nat.le_refl _) HBX.out (HR.out.below HST5.out.below (Nat.le_refl _))) kpB_t (kpB_b (by omega)) (Below.refl _ _) (fun _ => rfl)
    (fun pre W => St w W (bBoxes w b A cs.length c v (belL (fun x => decide (hiB b x ≤ v)) cs pre) (belL (fun x => decide (loB b x ≤ v)) cs pre)) ∧ w4.heap.size ≤ W.heap.size)
    (fun _ _ _ => False)
    (OwnFrom.and (st_own w w4.heap.size (by omega) (fun pre => (bBoxes w b A cs.length c v (belL (fun x => decide (hiB b x ≤ v)) cs pre) (belL (fun x => decide (loB b x ≤ v)) cs pre))) (by simp [bBoxes, Obj.isCells])) (fun s W W' row hs hg _ => Nat.le_trans hs hg.size))
    (fun cd s W W' row hs hg hr => hs.elim)
    ⟨HST5.out, Nat.le_refl _⟩
    (fun x a' W => ∃ Bx T X M, w4.heap.size ≤ Bx ∧ Elem cs x T X M ∧ W.heap[Bx]? = some (.cells #[.int .i64 X, .int .i64 M] 121 (0, 0)) ∧ a' = { tmps := #[.agg #[.int .i64 b, .slice A cs.length c], .int .i64 v, .pointer (some ⟨w.heap.size, 0, none⟩), .pointer (some ⟨w.heap.size + 1, 0, none⟩), .pointer (some ⟨w.heap.size + 1 + 1, 0, none⟩), .pointer (some ⟨w.heap.size + 1 + 1 + 1, 0, none⟩), .int .i64 T, .pointer (some ⟨Bx, 0, none⟩), undef, undef, .agg #[.int .i64 b, .slice A cs.length c], .func (.func 157) #[] #[.pointer (some ⟨W0.heap.size, 0, none⟩)], .int .i64 T, .agg #[.int .i64 X, .int .i64 M], undef, undef, undef, undef, undef, undef, undef, undef, undef, undef, undef, undef, undef, undef, undef, undef, undef, undef, undef, undef, undef, undef, undef, undef], defers := [] })
    (fun x a' _ X Y row hs hg hr => by
      obtain ⟨Bx, T, X1, M, h1, h2, h3, h4⟩ := hs
      exact ⟨Bx, T, X1, M, h1, h2, (hg.block Bx (heap_lt h3) (fun e => by
        obtain ⟨_, o', ho, hno⟩ := hr Bx e.symm
        rw [h3] at ho; cases ho; cases hno)).trans h3, h4⟩)
    ?assign ?body ?done ?stop
  case assign =>
    rintro l pre x W K ⟨hst, hsz⟩ hK
    obtain ⟨T, X, M, hel, he⟩ := elem_of cs x
    rw [he]
    gi_wp2
    exact hK _ _ ((KeepsOthers.alloc _ _).from _) ((KpB.refl _ _ W).alloc hst.below.size _) ⟨hst.more _, by simp; omega⟩ ⟨W.heap.size, T, X, M, hsz, hel, alloc_at _ _ _ rfl, rfl⟩
  case body =>
    rintro l pre x a' W hl ⟨r, hr⟩ ⟨hst, hsz⟩ ⟨Bx, T, X, M, hBx, hel, hbx, rfl⟩ hlt
    have htb := tot_bd (cs.take x.val) (fun c hc => HCS.out c (List.mem_of_mem_take hc))
    rw [← hel.1] at htb
    have hxl := x.isLt
    simp only [List.length_take] at htb
    have hm := HCS.out (X, M) (List.mem_of_getElem? hel.2)
    have hX := (HG.out.2.2.2.1 (X, M) (List.mem_of_getElem? hel.2)).1
    simp only at hm hX
    have hb2 := HG.out.1
    have hb8 := HG.out.2.1
    have HN1 := Lib.hid (belL_snoc (P := fun x => decide (hiB b x ≤ v)) (pre := pre) x hel.2)
    have HN2 := Lib.hid (belL_snoc (P := fun x => decide (loB b x ≤ v)) (pre := pre) x hel.2)
    rw [tot_take cs x.val X M hel.2, ← hel.1] at HN1 HN2
    obtain ⟨le, hle⟩ : ∃ z, z = belL (fun x => decide (hiB b x ≤ v)) cs pre := ⟨_, rfl⟩
    obtain ⟨mo, hmo⟩ : ∃ z, z = belL (fun x => decide (loB b x ≤ v)) cs pre := ⟨_, rfl⟩
    rw [← hle, ← hmo] at hst
    rw [← hle] at HN1
    rw [← hmo] at HN2
    have k00 : W.cell? ⟨w.heap.size, 0, none⟩ = some (.int .i64 b) := hst.cell 0 0 rfl rfl
    have x0 : W.cell? ⟨Bx, 0, none⟩ = some (.int .i64 X) := by rw [cellsAt hbx]; rfl
    have HST := Lib.hid hst
    have HBXX := Lib.hid hbx
    clear hel hst hbx hr hle hmo
    gi_wp2_with fail
    refine ⟨trivial, ?_⟩
    gi_at_call 105
    refine (CallsIn.inRound l (callsIn_wide.2 (limits_any b X _ hb2 hb8 hX.1 hX.2))).mono ?_
    rintro e w5 ⟨rfl, d5, hw5⟩
    have HST6 := Lib.hid (show St w w5 (bBoxes w b A cs.length c v le mo) by rw [hw5]; exact HST.out.drewN d5)
    have HKO := Lib.hid (show KeepsOthers W w5 by rw [hw5]; exact ⟨Nat.le_refl _, fun _ _ h _ => h⟩)
    have HKP := Lib.hid (show KpB w.heap.size w4.heap.size W w5 by rw [hw5]; exact (KpB.refl _ _ W).drewN d5)
    have hbx5 : w5.heap[Bx]? = some (.cells #[.int .i64 X, .int .i64 M] 121 (0, 0)) := by rw [hw5]; exact HBXX.out
    have hsz5 : w4.heap.size ≤ w5.heap.size := by rw [hw5]; exact hsz
    have hne1 : ¬ (w.heap.size + 1 + 1) = Bx := by omega
    have hne2 : ¬ (w.heap.size + 1 + 1 + 1) = Bx := by omega
    have hne3 : ¬ Bx = (w.heap.size + 1 + 1) := by omega
    have hne4 : ¬ Bx = (w.heap.size + 1 + 1 + 1) := by omega
    clear hw5 k00 x0
    obtain ⟨hiX, hhi⟩ : ∃ z, z = hiB b X := ⟨_, rfl⟩
    obtain ⟨loX, hlo⟩ : ∃ z, z = loB b X := ⟨_, rfl⟩
    rw [← hhi] at HN1 ⊢
    rw [← hlo] at HN2 ⊢
    clear hhi hlo
    have y1 : w5.cell? ⟨Bx, 1, none⟩ = some (.int .i64 M) := by rw [cellsAt hbx5]; rfl
    have k10 : w5.cell? ⟨w.heap.size + 1, 0, none⟩ = some (.int .i64 v) := HST6.out.cell 1 0 rfl rfl
    have k20 : w5.cell? ⟨w.heap.size + 1 + 1, 0, none⟩ = some (.int .i64 le) := HST6.out.cell 2 0 rfl rfl
    have z20 : w5.frozen? ⟨w.heap.size + 1 + 1, 0, none⟩ = false := HST6.out.frozen 2 0 rfl
    have k30 : w5.cell? ⟨w.heap.size + 1 + 1 + 1, 0, none⟩ = some (.int .i64 mo) := HST6.out.cell 3 0 rfl rfl
    have z30 : w5.frozen? ⟨w.heap.size + 1 + 1 + 1, 0, none⟩ = false := HST6.out.frozen 3 0 rfl
    have hlt2 : w.heap.size + 1 + 1 + 1 < w5.heap.size := HST6.out.lt 3 rfl
    clear hbx5
    by_cases c1 : hiX ≤ v
    · have t1 : decide (hiX ≤ v) = true := by simpa using c1
      by_cases c2 : loX ≤ v
      · have t2 : decide (loX ≤ v) = true := by simpa using c2
        rw [if_pos (by exact t1)] at HN1
        rw [if_pos (by exact t2)] at HN2
        gi_wp2
        refine ⟨((HKO.out.trans (KeepsOthers.setCell _ _ _)).trans (KeepsOthers.setCell _ _ _)).from _, ((HKP.out.setCell (p := ⟨w.heap.size + 1 + 1, 0, none⟩) (by simp only; omega) (by simp only; omega) _).setCell (p := ⟨w.heap.size + 1 + 1 + 1, 0, none⟩) (by simp only; omega) (by simp only; omega) _), ?_, by first | exact hsz5 | simpa using hsz5⟩
        rw [HN1.out, HN2.out]
        exact (bBoxes_set3 (bBoxes_set2 HST6.out (T + M)) (T + M))
      · have t2 : decide (loX ≤ v) = false := by simpa using c2
        rw [if_pos (by exact t1)] at HN1
        rw [if_neg (by exact t2 ▸ Bool.false_ne_true)] at HN2
        gi_wp2
        refine ⟨(HKO.out.trans (KeepsOthers.setCell _ _ _)).from _, (HKP.out.setCell (p := ⟨w.heap.size + 1 + 1, 0, none⟩) (by simp only; omega) (by simp only; omega) _), ?_, by first | exact hsz5 | simpa using hsz5⟩
        rw [HN1.out, HN2.out]
        exact (bBoxes_set2 HST6.out (T + M))
    · have t1 : decide (hiX ≤ v) = false := by simpa using c1
      by_cases c2 : loX ≤ v
      · have t2 : decide (loX ≤ v) = true := by simpa using c2
        rw [if_neg (by exact t1 ▸ Bool.false_ne_true)] at HN1
        rw [if_pos (by exact t2)] at HN2
        gi_wp2
        refine ⟨(HKO.out.trans (KeepsOthers.setCell _ _ _)).from _, (HKP.out.setCell (p := ⟨w.heap.size + 1 + 1 + 1, 0, none⟩) (by simp only; omega) (by simp only; omega) _), ?_, by first | exact hsz5 | simpa using hsz5⟩
        rw [HN1.out, HN2.out]
        exact (bBoxes_set3 HST6.out (T + M))
      · have t2 : decide (loX ≤ v) = false := by simpa using c2
        rw [if_neg (by exact t1 ▸ Bool.false_ne_true)] at HN1
        rw [if_neg (by exact t2 ▸ Bool.false_ne_true)] at HN2
        gi_wp2
        refine ⟨HKO.out.from _, HKP.out, ?_, by first | exact hsz5 | simpa using hsz5⟩
        rw [HN1.out, HN2.out]
        exact HST6.out
  case done =>
    rintro D ys W hD rfl ⟨hst, hsz⟩ hK
    rw [HLE.out.1, HLE.out.2] at hst
    have HST := Lib.hid hst
    clear hst
    have k20 : W.cell? ⟨w.heap.size + 1 + 1, 0, none⟩ = some (.int .i64 le0) := HST.out.cell 2 0 rfl rfl
    have z20 : W.frozen? ⟨w.heap.size + 1 + 1, 0, none⟩ = false := HST.out.frozen 2 0 rfl
    have k30 : W.cell? ⟨w.heap.size + 1 + 1 + 1, 0, none⟩ = some (.int .i64 mo0) := HST.out.cell 3 0 rfl rfl
    have z30 : W.frozen? ⟨w.heap.size + 1 + 1 + 1, 0, none⟩ = false := HST.out.frozen 3 0 rfl
    gi_wp2
    gi_region
    gi_wp2
    have HST7 := Lib.hid (bBoxes_set3 (bBoxes_set2 HST.out le0) mo0).drew
    have hK' := (KeepsOthers.drew _).same D _ ((KeepsOthers.setCell (W.setCell ⟨w.heap.size + 1 + 1, 0, none⟩ (.int .i64 le0)) ⟨w.heap.size + 1 + 1 + 1, 0, none⟩ (.int .i64 mo0)).same D _ ((KeepsOthers.setCell W ⟨w.heap.size + 1 + 1, 0, none⟩ (.int .i64 le0)).same D _ hK rfl) rfl) rfl
    refine ⟨by simp, .inl ⟨_, _, rfl, run_takeDeferred hK', ?_⟩⟩
    have hc5 := cell_kept (HST7.out.cell 2 0 rfl rfl) (grownBy_putObj' _ D (.deferred none)) (fun r e => by cases e; exact ⟨_, hK', rfl⟩)
    have hc6 := cell_kept (HST7.out.cell 3 0 rfl rfl) (grownBy_putObj' _ D (.deferred none)) (fun r e => by cases e; exact ⟨_, hK', rfl⟩)
    refine ⟨.tuple #[.int .i64 le0, .int .i64 mo0], ?_, rfl, HST7.out.below.trans (belowK_b (w := w) (Nat.le_refl _) _ D _ _ (by omega) hK' rfl rfl)⟩
    simp [results, Tryz.f100, go_sem, hc5, hc6]
  case stop =>
    rintro D cd pre W hD hk hs hK
    exact hs.elim
end Go.Proofs.YtepfmoaihhonlaaGreatDoor
