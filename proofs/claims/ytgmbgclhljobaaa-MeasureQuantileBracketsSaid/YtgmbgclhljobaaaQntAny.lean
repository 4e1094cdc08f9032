/- Quantile at every histogram. -/
import Derived.Test.YtgmbgclhljobaaaQnt
namespace Go.Proofs.Ytgmbgclhljobaaa
open Go Go.RowKit Go.Proofs

set_option maxHeartbeats 1000000 in
set_option maxRecDepth 100000 in
theorem Quantile_bad (b : Int) (A : Option Addr) (c : Nat) (cs : List (Int × Int)) (num den : Int) (w : World) (hr : Rd w 0 w.heap.size 2 A cs.length (cells2 cs)) (hl : cs.length < 9223372036854775807) (h : codeH b cs ≠ 0) :
    Calls Try.prog 12 #[.agg #[.int .i64 b, .slice A cs.length c], .int .i64 num, .int .i64 den] w (QPost b cs num den w) := by
  have HQ := Lib.hid (show codeQ b cs num den = codeH b cs by unfold codeQ; rw [if_neg h])
  obtain ⟨cd, hcd⟩ : ∃ cd, cd = codeH b cs := ⟨_, rfl⟩
  rw [← hcd] at h HQ
  have HCD := Lib.hid hcd
  clear hcd
  have tc : (cd == 0) = false := by simpa using h
  have tc' : (cd != 0) = true := by simpa using h
  have HR := Lib.hid hr
  clear hr
  obtain ⟨W0, hW0⟩ : ∃ W0, W0 = ((w.alloc (.cells #[.int .i64 b, .slice A cs.length c] 32)).alloc (.cells #[.int .i64 0] 3)).alloc (.cells #[.int .i64 0] 3) := ⟨_, rfl⟩
  have HST0 := Lib.hid (show St w W0 [(w.heap.size, .cells #[.int .i64 b, .slice A cs.length c] 32 (0, 0)), (w.heap.size + 1, .cells #[.int .i64 0] 3 (0, 0)), (w.heap.size + 1 + 1, .cells #[.int .i64 0] 3 (0, 0))] by
    rw [hW0]; exact (((St.start w).alloc _ _ rfl).alloc _ _ (by simp)).alloc _ _ (by simp))
  go_enter Try.func12, Try.ntmps12
  go_wp2_with fail
  rw [← hW0]
  clear hW0
  refine (check_any b A cs.length c cs W0 (HR.out.old HST0.out.below) (by omega)).mono ?_
  rintro e w1 ⟨rfl, hb1⟩
  rw [← HCD.out]
  have HST1 := Lib.hid (HST0.out.call hb1)
  clear hb1
  have k00 : w1.cell? ⟨w.heap.size, 0, none⟩ = some (.int .i64 b) := HST1.out.cell 0 0 rfl rfl
  have k01 : w1.cell? ⟨w.heap.size, 1, none⟩ = some (.slice A cs.length c) := HST1.out.cell 0 1 rfl rfl
  have k10 : w1.cell? ⟨w.heap.size + 1, 0, none⟩ = some (.int .i64 0) := HST1.out.cell 1 0 rfl rfl
  have z10 : w1.frozen? ⟨w.heap.size + 1, 0, none⟩ = false := HST1.out.frozen 1 0 rfl
  have k20 : w1.cell? ⟨w.heap.size + 1 + 1, 0, none⟩ = some (.int .i64 0) := HST1.out.cell 2 0 rfl rfl
  have z20 : w1.frozen? ⟨w.heap.size + 1 + 1, 0, none⟩ = false := HST1.out.frozen 2 0 rfl
  go_wp2
  exact bodyPost_ret (v := .tuple #[.int .i64 0, .int .i64 0, .int .i64 cd]) (by simp [results, Try.results12, go_sem, k10, k20]) rfl ⟨0, 0, by rw [HQ.out], fun hz => absurd (HQ.out ▸ hz) (by exact h), fun _ => ⟨rfl, rfl⟩, (HST1.out.below.setCell (p := ⟨w.heap.size + 1, 0, none⟩) (by simp) _).setCell (p := ⟨w.heap.size + 1 + 1, 0, none⟩) (by simp; omega) _⟩

set_option maxHeartbeats 1000000 in
set_option maxRecDepth 100000 in
theorem Quantile_range (b : Int) (A : Option Addr) (c : Nat) (cs : List (Int × Int)) (num den : Int) (w : World) (hr : Rd w 0 w.heap.size 2 A cs.length (cells2 cs)) (hl : cs.length < 9223372036854775807) (h : codeH b cs = 0) (hq : badQ num den = true) :
    Calls Try.prog 12 #[.agg #[.int .i64 b, .slice A cs.length c], .int .i64 num, .int .i64 den] w (QPost b cs num den w) := by
  have HQ := Lib.hid (show codeQ b cs num den = 9 by unfold codeQ; rw [if_pos h, if_pos hq])
  have HCD := Lib.hid h
  clear h
  have hq' : num < 0 ∨ den < num ∨ den < 1 ∨ 1000000 < den := by simp [badQ] at hq; omega
  clear hq
  have HR := Lib.hid hr
  clear hr
  obtain ⟨W0, hW0⟩ : ∃ W0, W0 = ((w.alloc (.cells #[.int .i64 b, .slice A cs.length c] 32)).alloc (.cells #[.int .i64 0] 3)).alloc (.cells #[.int .i64 0] 3) := ⟨_, rfl⟩
  have HST0 := Lib.hid (show St w W0 [(w.heap.size, .cells #[.int .i64 b, .slice A cs.length c] 32 (0, 0)), (w.heap.size + 1, .cells #[.int .i64 0] 3 (0, 0)), (w.heap.size + 1 + 1, .cells #[.int .i64 0] 3 (0, 0))] by
    rw [hW0]; exact (((St.start w).alloc _ _ rfl).alloc _ _ (by simp)).alloc _ _ (by simp))
  go_enter Try.func12, Try.ntmps12
  go_wp2_with fail
  rw [← hW0]
  clear hW0
  refine (check_any b A cs.length c cs W0 (HR.out.old HST0.out.below) (by omega)).mono ?_
  rintro e w1 ⟨rfl, hb1⟩
  rw [HCD.out]
  have HST1 := Lib.hid (HST0.out.call hb1)
  clear hb1
  have k00 : w1.cell? ⟨w.heap.size, 0, none⟩ = some (.int .i64 b) := HST1.out.cell 0 0 rfl rfl
  have k01 : w1.cell? ⟨w.heap.size, 1, none⟩ = some (.slice A cs.length c) := HST1.out.cell 0 1 rfl rfl
  have k10 : w1.cell? ⟨w.heap.size + 1, 0, none⟩ = some (.int .i64 0) := HST1.out.cell 1 0 rfl rfl
  have z10 : w1.frozen? ⟨w.heap.size + 1, 0, none⟩ = false := HST1.out.frozen 1 0 rfl
  have k20 : w1.cell? ⟨w.heap.size + 1 + 1, 0, none⟩ = some (.int .i64 0) := HST1.out.cell 2 0 rfl rfl
  have z20 : w1.frozen? ⟨w.heap.size + 1 + 1, 0, none⟩ = false := HST1.out.frozen 2 0 rfl
  by_cases q1 : num < 0
  · have u1 : decide (num < 0) = true := by simpa using q1
    go_wp2
    exact bodyPost_ret (v := .tuple #[.int .i64 0, .int .i64 0, .int .i64 9]) (by simp [results, Try.results12, go_sem, k10, k20]) rfl ⟨0, 0, by rw [HQ.out], fun hz => absurd (HQ.out ▸ hz) (by omega), fun _ => ⟨rfl, rfl⟩, (HST1.out.below.setCell (p := ⟨w.heap.size + 1, 0, none⟩) (by simp) _).setCell (p := ⟨w.heap.size + 1 + 1, 0, none⟩) (by simp; omega) _⟩
  · have u1 : decide (num < 0) = false := by simpa using q1
    by_cases q2 : den < num
    · have u2 : decide (den < num) = true := by simpa using q2
      go_wp2
      exact bodyPost_ret (v := .tuple #[.int .i64 0, .int .i64 0, .int .i64 9]) (by simp [results, Try.results12, go_sem, k10, k20]) rfl ⟨0, 0, by rw [HQ.out], fun hz => absurd (HQ.out ▸ hz) (by omega), fun _ => ⟨rfl, rfl⟩, (HST1.out.below.setCell (p := ⟨w.heap.size + 1, 0, none⟩) (by simp) _).setCell (p := ⟨w.heap.size + 1 + 1, 0, none⟩) (by simp; omega) _⟩
    · have u2 : decide (den < num) = false := by simpa using q2
      by_cases q3 : den < 1
      · have u3 : decide (den < 1) = true := by simpa using q3
        go_wp2
        exact bodyPost_ret (v := .tuple #[.int .i64 0, .int .i64 0, .int .i64 9]) (by simp [results, Try.results12, go_sem, k10, k20]) rfl ⟨0, 0, by rw [HQ.out], fun hz => absurd (HQ.out ▸ hz) (by omega), fun _ => ⟨rfl, rfl⟩, (HST1.out.below.setCell (p := ⟨w.heap.size + 1, 0, none⟩) (by simp) _).setCell (p := ⟨w.heap.size + 1 + 1, 0, none⟩) (by simp; omega) _⟩
      · have u3 : decide (den < 1) = false := by simpa using q3
        have q4 : 1000000 < den := by omega
        have u4 : decide (1000000 < den) = true := by simpa using q4
        go_wp2
        exact bodyPost_ret (v := .tuple #[.int .i64 0, .int .i64 0, .int .i64 9]) (by simp [results, Try.results12, go_sem, k10, k20]) rfl ⟨0, 0, by rw [HQ.out], fun hz => absurd (HQ.out ▸ hz) (by omega), fun _ => ⟨rfl, rfl⟩, (HST1.out.below.setCell (p := ⟨w.heap.size + 1, 0, none⟩) (by simp) _).setCell (p := ⟨w.heap.size + 1 + 1, 0, none⟩) (by simp; omega) _⟩

set_option maxHeartbeats 1000000 in
set_option maxRecDepth 100000 in
theorem Quantile_empty (b : Int) (A : Option Addr) (c : Nat) (cs : List (Int × Int)) (num den : Int) (w : World) (hr : Rd w 0 w.heap.size 2 A cs.length (cells2 cs)) (h : codeH b cs = 0) (hq : badQ num den = false) (hl : cs.length = 0) :
    Calls Try.prog 12 #[.agg #[.int .i64 b, .slice A cs.length c], .int .i64 num, .int .i64 den] w (QPost b cs num den w) := by
  have HQ := Lib.hid (show codeQ b cs num den = 13 by unfold codeQ; rw [if_pos h, hq, if_neg (by simp), if_pos hl])
  have HCD := Lib.hid h
  clear h
  obtain ⟨q1, q2, q3, q4⟩ : 0 ≤ num ∧ num ≤ den ∧ 1 ≤ den ∧ den ≤ 1000000 := by simp [badQ] at hq; omega
  have HL := Lib.hid hl
  have hl2 : cs.length < 1 := by omega
  clear hq hl
  have HR := Lib.hid hr
  clear hr
  obtain ⟨W0, hW0⟩ : ∃ W0, W0 = ((w.alloc (.cells #[.int .i64 b, .slice A cs.length c] 32)).alloc (.cells #[.int .i64 0] 3)).alloc (.cells #[.int .i64 0] 3) := ⟨_, rfl⟩
  have HST0 := Lib.hid (show St w W0 [(w.heap.size, .cells #[.int .i64 b, .slice A cs.length c] 32 (0, 0)), (w.heap.size + 1, .cells #[.int .i64 0] 3 (0, 0)), (w.heap.size + 1 + 1, .cells #[.int .i64 0] 3 (0, 0))] by
    rw [hW0]; exact (((St.start w).alloc _ _ rfl).alloc _ _ (by simp)).alloc _ _ (by simp))
  go_enter Try.func12, Try.ntmps12
  go_wp2_with fail
  rw [← hW0]
  clear hW0
  refine (check_any b A cs.length c cs W0 (HR.out.old HST0.out.below) (by omega)).mono ?_
  rintro e w1 ⟨rfl, hb1⟩
  rw [HCD.out]
  have HST1 := Lib.hid (HST0.out.call hb1)
  clear hb1
  have k00 : w1.cell? ⟨w.heap.size, 0, none⟩ = some (.int .i64 b) := HST1.out.cell 0 0 rfl rfl
  have k01 : w1.cell? ⟨w.heap.size, 1, none⟩ = some (.slice A cs.length c) := HST1.out.cell 0 1 rfl rfl
  have k10 : w1.cell? ⟨w.heap.size + 1, 0, none⟩ = some (.int .i64 0) := HST1.out.cell 1 0 rfl rfl
  have z10 : w1.frozen? ⟨w.heap.size + 1, 0, none⟩ = false := HST1.out.frozen 1 0 rfl
  have k20 : w1.cell? ⟨w.heap.size + 1 + 1, 0, none⟩ = some (.int .i64 0) := HST1.out.cell 2 0 rfl rfl
  have z20 : w1.frozen? ⟨w.heap.size + 1 + 1, 0, none⟩ = false := HST1.out.frozen 2 0 rfl
  have u1 : decide (num < 0) = false := by simpa using q1
  have u2 : decide (den < num) = false := by simpa using q2
  have u3 : decide (den < 1) = false := by simp; omega
  have u4 : decide (1000000 < den) = false := by simpa using q4
  have u5 : ((cs.length : Int) == 0) = true := by simp only [beq_iff_eq]; omega
  go_wp2
  exact bodyPost_ret (v := .tuple #[.int .i64 0, .int .i64 0, .int .i64 13]) (by simp [results, Try.results12, go_sem, k10, k20]) rfl ⟨0, 0, by rw [HQ.out], fun hz => absurd (HQ.out ▸ hz) (by omega), fun _ => ⟨rfl, rfl⟩, (HST1.out.below.setCell (p := ⟨w.heap.size + 1, 0, none⟩) (by simp) _).setCell (p := ⟨w.heap.size + 1 + 1, 0, none⟩) (by simp; omega) _⟩

theorem Quantile_any (b : Int) (A : Option Addr) (c : Nat) (cs : List (Int × Int)) (num den : Int) (w : World) (hr : Rd w 0 w.heap.size 2 A cs.length (cells2 cs)) (hl : cs.length < 9223372036854775807) (hT : codeH b cs = 0 → tot cs ≤ 1000000) :
    Calls Try.prog 12 #[.agg #[.int .i64 b, .slice A cs.length c], .int .i64 num, .int .i64 den] w (QPost b cs num den w) := by
  by_cases h : codeH b cs = 0
  · cases hq : badQ num den with
    | true => exact Quantile_range b A c cs num den w hr hl h hq
    | false =>
      rcases Nat.eq_zero_or_pos cs.length with h0 | h0
      · exact Quantile_empty b A c cs num den w hr h hq h0
      · have hq' := hq
        simp [badQ] at hq'
        obtain ⟨n, rfl⟩ := Int.eq_ofNat_of_zero_le (show 0 ≤ num by omega)
        obtain ⟨d, rfl⟩ := Int.eq_ofNat_of_zero_le (show 0 ≤ den by omega)
        exact Quantile_main b A c cs n d w hr (codeH_zero h) hq h0 (hT h)
  · exact Quantile_bad b A c cs num den w hr hl h
end Go.Proofs.Ytgmbgclhljobaaa
