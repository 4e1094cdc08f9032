import Derived.Test.YtepfmoaihhonlaaGreatDoorQnt
import Derived.Test.YtepfmoaihhonlaaGreatDoorG10
import Derived.Test.YtepfmoaihhonlaaGreatDoorRChk
import Derived.Test.YtepfmoaihhonlaaGreatDoorG8
/- Quantile at every histogram. -/
namespace Go.Proofs.YtepfmoaihhonlaaGreatDoor
open Go Go.RowKit Go.Proofs

set_option maxHeartbeats 1000000 in
set_option maxRecDepth 100000 in
theorem Quantile_bad (b : Int) (A : Option Addr) (c : Nat) (cs : List (Int × Int)) (num den : Int) (w : World) (hr : Rd w 0 w.heap.size 2 A cs.length (cells2 cs)) (hl : cs.length < 9223372036854775807) (h : codeH b cs ≠ 0) :
    Calls Tryz.prog 38 #[.agg #[.int .i64 b, .slice A cs.length c], .int .i64 num, .int .i64 den] w (QPost b cs num den w) := by
  have HQ := Lib.hid (show codeQ b cs num den = codeH b cs by unfold codeQ; rw [if_neg h])
  obtain ⟨cd, hcd⟩ : ∃ cd, cd = codeH b cs := ⟨_, rfl⟩
  rw [← hcd] at h HQ
  have HCD := Lib.hid hcd
  clear hcd
  have tc : (cd == 0) = false := by simpa using h
  have tc' : (cd != 0) = true := by simpa using h
  have HR := Lib.hid hr
  clear hr
  obtain ⟨W0, hW0⟩ : ∃ W0, W0 = ((w.alloc (.cells #[.int .i64 b, .slice A cs.length c] 53)).alloc (.cells #[.int .i64 0] 3)).alloc (.cells #[.int .i64 0] 3) := ⟨_, rfl⟩
  have HST0 := Lib.hid (show St w W0 [(w.heap.size, .cells #[.int .i64 b, .slice A cs.length c] 53 (0, 0)), (w.heap.size + 1, .cells #[.int .i64 0] 3 (0, 0)), (w.heap.size + 1 + 1, .cells #[.int .i64 0] 3 (0, 0))] by
    rw [hW0]; exact (((St.start w).alloc _ _ rfl).alloc _ _ (by simp)).alloc _ _ (by simp))
  go_enter Tryz.func38, Tryz.ntmps38
  go_wp2_with fail
  rw [← hW0]
  clear hW0
  refine (check_any b A cs.length c cs W0 (HR.out.old HST0.out.below) (by omega)).mono ?_
  rintro e w1 ⟨rfl, hb1⟩
  rw [← HCD.out]
  have HST1 := Lib.hid (HST0.out.call hb1)
  clear hb1
  have k00 : w1.cell? ⟨w.heap.size, 0, none⟩ = some (.int .i64 b) := HST1.out.cell 0 0 rfl rfl
  have k01 : w1.cell? ⟨w.heap.size, 1, none⟩ = some (.slice A cs.length c) := HST1.out.cell 0 1 rfl rfl
  have k10 : w1.cell? ⟨w.heap.size + 1, 0, none⟩ = some (.int .i64 0) := HST1.out.cell 1 0 rfl rfl
  have z10 : w1.frozen? ⟨w.heap.size + 1, 0, none⟩ = false := HST1.out.frozen 1 0 rfl
  have k20 : w1.cell? ⟨w.heap.size + 1 + 1, 0, none⟩ = some (.int .i64 0) := HST1.out.cell 2 0 rfl rfl
  have z20 : w1.frozen? ⟨w.heap.size + 1 + 1, 0, none⟩ = false := HST1.out.frozen 2 0 rfl
  go_wp2
  exact bodyPost_ret (v := .tuple #[.int .i64 0, .int .i64 0, .int .i64 cd]) (by simp [results, Tryz.results38, go_sem, k10, k20]) rfl ⟨0, 0, by rw [HQ.out], fun hz => absurd (HQ.out ▸ hz) (by exact h), fun _ => ⟨rfl, rfl⟩, (HST1.out.below.setCell (p := ⟨w.heap.size + 1, 0, none⟩) (by simp) _).setCell (p := ⟨w.heap.size + 1 + 1, 0, none⟩) (by simp; omega) _⟩

set_option maxHeartbeats 1000000 in
set_option maxRecDepth 100000 in
theorem Quantile_range (b : Int) (A : Option Addr) (c : Nat) (cs : List (Int × Int)) (num den : Int) (w : World) (hr : Rd w 0 w.heap.size 2 A cs.length (cells2 cs)) (hl : cs.length < 9223372036854775807) (h : codeH b cs = 0) (hq : badQ num den = true) :
    Calls Tryz.prog 38 #[.agg #[.int .i64 b, .slice A cs.length c], .int .i64 num, .int .i64 den] w (QPost b cs num den w) := by
  have HQ := Lib.hid (show codeQ b cs num den = 9 by unfold codeQ; rw [if_pos h, if_pos hq])
  have HCD := Lib.hid h
  clear h
  have hq' : num < 0 ∨ den < num ∨ den < 1 ∨ 1000000 < den := by simp [badQ] at hq; omega
  clear hq
  have HR := Lib.hid hr
  clear hr
  obtain ⟨W0, hW0⟩ : ∃ W0, W0 = ((w.alloc (.cells #[.int .i64 b, .slice A cs.length c] 53)).alloc (.cells #[.int .i64 0] 3)).alloc (.cells #[.int .i64 0] 3) := ⟨_, rfl⟩
  have HST0 := Lib.hid (show St w W0 [(w.heap.size, .cells #[.int .i64 b, .slice A cs.length c] 53 (0, 0)), (w.heap.size + 1, .cells #[.int .i64 0] 3 (0, 0)), (w.heap.size + 1 + 1, .cells #[.int .i64 0] 3 (0, 0))] by
    rw [hW0]; exact (((St.start w).alloc _ _ rfl).alloc _ _ (by simp)).alloc _ _ (by simp))
  go_enter Tryz.func38, Tryz.ntmps38
  go_wp2_with fail
  rw [← hW0]
  clear hW0
  refine (check_any b A cs.length c cs W0 (HR.out.old HST0.out.below) (by omega)).mono ?_
  rintro e w1 ⟨rfl, hb1⟩
  rw [HCD.out]
  have HST1 := Lib.hid (HST0.out.call hb1)
  clear hb1
  have k00 : w1.cell? ⟨w.heap.size, 0, none⟩ = some (.int .i64 b) := HST1.out.cell 0 0 rfl rfl
  have k01 : w1.cell? ⟨w.heap.size, 1, none⟩ = some (.slice A cs.length c) := HST1.out.cell 0 1 rfl rfl
  have k10 : w1.cell? ⟨w.heap.size + 1, 0, none⟩ = some (.int .i64 0) := HST1.out.cell 1 0 rfl rfl
  have z10 : w1.frozen? ⟨w.heap.size + 1, 0, none⟩ = false := HST1.out.frozen 1 0 rfl
  have k20 : w1.cell? ⟨w.heap.size + 1 + 1, 0, none⟩ = some (.int .i64 0) := HST1.out.cell 2 0 rfl rfl
  have z20 : w1.frozen? ⟨w.heap.size + 1 + 1, 0, none⟩ = false := HST1.out.frozen 2 0 rfl
  by_cases q1 : num < 0
  · have u1 : decide (num < 0) = true := by simpa using q1
    go_wp2
    exact bodyPost_ret (v := .tuple #[.int .i64 0, .int .i64 0, .int .i64 9]) (by simp [results, Tryz.results38, go_sem, k10, k20]) rfl ⟨0, 0, by rw [HQ.out], fun hz => absurd (HQ.out ▸ hz) (by omega), fun _ => ⟨rfl, rfl⟩, (HST1.out.below.setCell (p := ⟨w.heap.size + 1, 0, none⟩) (by simp) _).setCell (p := ⟨w.heap.size + 1 + 1, 0, none⟩) (by simp; omega) _⟩
  · have u1 : decide (num < 0) = false := by simpa using q1
    by_cases q2 : den < num
    · have u2 : decide (den < num) = true := by simpa using q2
      go_wp2
      exact bodyPost_ret (v := .tuple #[.int .i64 0, .int .i64 0, .int .i64 9]) (by simp [results, Tryz.results38, go_sem, k10, k20]) rfl ⟨0, 0, by rw [HQ.out], fun hz => absurd (HQ.out ▸ hz) (by omega), fun _ => ⟨rfl, rfl⟩, (HST1.out.below.setCell (p := ⟨w.heap.size + 1, 0, none⟩) (by simp) _).setCell (p := ⟨w.heap.size + 1 + 1, 0, none⟩) (by simp; omega) _⟩
    · have u2 : decide (den < num) = false := by simpa using q2
      by_cases q3 : den < 1
      · have u3 : decide (den < 1) = true := by simpa using q3
        go_wp2
        exact bodyPost_ret (v := .tuple #[.int .i64 0, .int .i64 0, .int .i64 9]) (by simp [results, Tryz.results38, go_sem, k10, k20]) rfl ⟨0, 0, by rw [HQ.out], fun hz => absurd (HQ.out ▸ hz) (by omega), fun _ => ⟨rfl, rfl⟩, (HST1.out.below.setCell (p := ⟨w.heap.size + 1, 0, none⟩) (by simp) _).setCell (p := ⟨w.heap.size + 1 + 1, 0, none⟩) (by simp; omega) _⟩
      · have u3 : decide (den < 1) = false := by simpa using q3
        have q4 : 1000000 < den := by omega
        have u4 : decide (1000000 < den) = true := by simpa using q4
        go_wp2
        exact bodyPost_ret (v := .tuple #[.int .i64 0, .int .i64 0, .int .i64 9]) (by simp [results, Tryz.results38, go_sem, k10, k20]) rfl ⟨0, 0, by rw [HQ.out], fun hz => absurd (HQ.out ▸ hz) (by omega), fun _ => ⟨rfl, rfl⟩, (HST1.out.below.setCell (p := ⟨w.heap.size + 1, 0, none⟩) (by simp) _).setCell (p := ⟨w.heap.size + 1 + 1, 0, none⟩) (by simp; omega) _⟩

set_option maxHeartbeats 1000000 in
set_option maxRecDepth 100000 in
theorem Quantile_empty (b : Int) (A : Option Addr) (c : Nat) (cs : List (Int × Int)) (num den : Int) (w : World) (hr : Rd w 0 w.heap.size 2 A cs.length (cells2 cs)) (h : codeH b cs = 0) (hq : badQ num den = false) (hl : cs.length = 0) :
    Calls Tryz.prog 38 #[.agg #[.int .i64 b, .slice A cs.length c], .int .i64 num, .int .i64 den] w (QPost b cs num den w) := by
  have HQ := Lib.hid (show codeQ b cs num den = 13 by unfold codeQ; rw [if_pos h, hq, if_neg (by simp), if_pos hl])
  have HCD := Lib.hid h
  clear h
  obtain ⟨q1, q2, q3, q4⟩ : 0 ≤ num ∧ num ≤ den ∧ 1 ≤ den ∧ den ≤ 1000000 := by simp [badQ] at hq; omega
  have HL := Lib.hid hl
  have hl2 : cs.length < 1 := by omega
  clear hq hl
  have HR := Lib.hid hr
  clear hr
  obtain ⟨W0, hW0⟩ : ∃ W0, W0 = ((w.alloc (.cells #[.int .i64 b, .slice A cs.length c] 53)).alloc (.cells #[.int .i64 0] 3)).alloc (.cells #[.int .i64 0] 3) := ⟨_, rfl⟩
  have HST0 := Lib.hid (show St w W0 [(w.heap.size, .cells #[.int .i64 b, .slice A cs.length c] 53 (0, 0)), (w.heap.size + 1, .cells #[.int .i64 0] 3 (0, 0)), (w.heap.size + 1 + 1, .cells #[.int .i64 0] 3 (0, 0))] by
    rw [hW0]; exact (((St.start w).alloc _ _ rfl).alloc _ _ (by simp)).alloc _ _ (by simp))
  go_enter Tryz.func38, Tryz.ntmps38
  go_wp2_with fail
  rw [← hW0]
  clear hW0
  refine (check_any b A cs.length c cs W0 (HR.out.old HST0.out.below) (by omega)).mono ?_
  rintro e w1 ⟨rfl, hb1⟩
  rw [HCD.out]
  have HST1 := Lib.hid (HST0.out.call hb1)
  clear hb1
  have k00 : w1.cell? ⟨w.heap.size, 0, none⟩ = some (.int .i64 b) := HST1.out.cell 0 0 rfl rfl
  have k01 : w1.cell? ⟨w.heap.size, 1, none⟩ = some (.slice A cs.length c) := HST1.out.cell 0 1 rfl rfl
  have k10 : w1.cell? ⟨w.heap.size + 1, 0, none⟩ = some (.int .i64 0) := HST1.out.cell 1 0 rfl rfl
  have z10 : w1.frozen? ⟨w.heap.size + 1, 0, none⟩ = false := HST1.out.frozen 1 0 rfl
  have k20 : w1.cell? ⟨w.heap.size + 1 + 1, 0, none⟩ = some (.int .i64 0) := HST1.out.cell 2 0 rfl rfl
  have z20 : w1.frozen? ⟨w.heap.size + 1 + 1, 0, none⟩ = false := HST1.out.frozen 2 0 rfl
  have u1 : decide (num < 0) = false := by simpa using q1
  have u2 : decide (den < num) = false := by simpa using q2
  have u3 : decide (den < 1) = false := by simp; omega
  have u4 : decide (1000000 < den) = false := by simpa using q4
  have u5 : ((cs.length : Int) == 0) = true := by simp only [beq_iff_eq]; omega
  go_wp2
  exact bodyPost_ret (v := .tuple #[.int .i64 0, .int .i64 0, .int .i64 13]) (by simp [results, Tryz.results38, go_sem, k10, k20]) rfl ⟨0, 0, by rw [HQ.out], fun hz => absurd (HQ.out ▸ hz) (by omega), fun _ => ⟨rfl, rfl⟩, (HST1.out.below.setCell (p := ⟨w.heap.size + 1, 0, none⟩) (by simp) _).setCell (p := ⟨w.heap.size + 1 + 1, 0, none⟩) (by simp; omega) _⟩

theorem Quantile_any (b : Int) (A : Option Addr) (c : Nat) (cs : List (Int × Int)) (num den : Int) (w : World) (hr : Rd w 0 w.heap.size 2 A cs.length (cells2 cs)) (hl : cs.length < 9223372036854775807) (hT : codeH b cs = 0 → tot cs ≤ 1125899906842624) :
    Calls Tryz.prog 38 #[.agg #[.int .i64 b, .slice A cs.length c], .int .i64 num, .int .i64 den] w (QPost b cs num den w) := by
  by_cases h : codeH b cs = 0
  · cases hq : badQ num den with
    | true => exact Quantile_range b A c cs num den w hr hl h hq
    | false =>
      rcases Nat.eq_zero_or_pos cs.length with h0 | h0
      · exact Quantile_empty b A c cs num den w hr h hq h0
      · have hq' := hq
        simp [badQ] at hq'
        obtain ⟨n, rfl⟩ := Int.eq_ofNat_of_zero_le (show 0 ≤ num by omega)
        obtain ⟨d, rfl⟩ := Int.eq_ofNat_of_zero_le (show 0 ≤ den by omega)
        exact Quantile_main b A c cs n d w hr (codeH_zero h) hq h0 (hT h)
  · exact Quantile_bad b A c cs num den w hr hl h
end Go.Proofs.YtepfmoaihhonlaaGreatDoor

/- Package dynamometerref9: below. Printed by gen_rbel.py. -/
namespace Go.Proofs.YtepfmoaihhonlaaGreatDoor
open Go Go.RowKit Go.Proofs

theorem quiet_add_left {P : Program} {f : FuncId} {args : Array Value} {w : World} {a n : Nat} {v : Value}
    (h : Calls P f args (w.drewN (a + n)) fun e w' => e = .returned v ∧ w.drewN (a + n) = w') :
    Calls P f args (w.drewN (a + n)) fun e w'' => e = .returned v ∧ ∃ m, w'' = w.drewN (a + m) :=
  h.mono fun _ _ ⟨he, hm⟩ => ⟨he, n, hm.symm⟩
theorem quiet_left {P : Program} {f : FuncId} {args : Array Value} {w : World} {n : Nat} {v : Value}
    (h : Calls P f args (w.drewN n) fun e w' => e = .returned v ∧ w.drewN n = w') : Calls P f args (w.drewN n) fun e w'' => e = .returned v ∧ ∃ m, w'' = w.drewN m :=
  h.mono fun _ _ ⟨he, hm⟩ => ⟨he, n, hm.symm⟩

set_option maxHeartbeats 4000000 in
set_option maxRecDepth 100000 in
theorem rbelow_any (b v : Int) (A : Option Addr) (c : Nat) (cs : List (Int × Int)) (w : World) (hr : Rd w 0 w.heap.size 2 A cs.length (cells2 cs)) (hg : Good b cs) :
    Calls Tryz.prog 95 #[.agg #[.int .i64 b, .slice A cs.length c], .int .i64 v] w fun e w' => e = .returned (.tuple #[.int .i64 (leB b v cs), .int .i64 (moB b v cs)]) ∧ Below w.heap.size w w' := by
  have HR := Lib.hid hr
  have HG := Lib.hid hg
  have hlen := hg.2.2.1
  have hb2 := hg.1
  have hb8 := hg.2.1
  have HCS := Lib.hid (fun c hc => (hg.2.2.2.1 c hc).2)
  have HTT := Lib.hid hg.2.2.2.2.2
  obtain ⟨P1, hP1⟩ : ∃ P : Int → Bool, P = fun x => decide (hiB b x ≤ v) := ⟨_, rfl⟩
  obtain ⟨P2, hP2⟩ : ∃ P : Int → Bool, P = fun x => decide (loB b x ≤ v) := ⟨_, rfl⟩
  have HF := Lib.hid (show leB b v cs = belF P1 cs ∧ moB b v cs = belF P2 cs by rw [hP1, hP2]; exact ⟨rfl, rfl⟩)
  have HP := Lib.hid (show ∀ x, P1 x = decide (hiB b x ≤ v) ∧ P2 x = decide (loB b x ≤ v) from fun x => by rw [hP1, hP2]; exact ⟨rfl, rfl⟩)
  obtain ⟨W0, hW0⟩ : ∃ W0, W0 = w.alloc (.cells #[.int .i64 b, .slice A cs.length c] 53) := ⟨_, rfl⟩
  have HST0 := Lib.hid (show St w W0 [(w.heap.size, .cells #[.int .i64 b, .slice A cs.length c] 53 (0, 0))] by rw [hW0]; exact (St.start w).alloc _ _ rfl)
  clear hr hg hP1 hP2
  go_enter Tryz.func95, Tryz.ntmps95
  go_wp2_with fail
  rw [← hW0]
  clear hW0
  go_loopw [6, 7, 8] (fun lv mv iv wr => ∃ k : Nat, k ≤ cs.length ∧ iv = .int .i64 k ∧ ∃ le mo : Int, lv = .int .i64 le ∧ mv = .int .i64 mo ∧ Hid (le = belF P1 (cs.take k)) ∧ Hid (mo = belF P2 (cs.take k)) ∧ St w wr [(w.heap.size, .cells #[.int .i64 b, .slice A cs.length c] 53 (0, 0))]) (fun _ _ iv _ => cs.length - (intOf iv).toNat)
  case atStart => exact ⟨0, Nat.zero_le _, rfl, 0, 0, rfl, rfl, Lib.hid (by simp [belF]), Lib.hid (by simp [belF]), HST0.out⟩
  case round =>
    obtain ⟨k, hk, rfl, le, mo, rfl, rfl, HLE, HMO, hst⟩ := hrel
    have HST := Lib.hid hst
    have k00 : wr.cell? ⟨w.heap.size, 0, none⟩ = some (.int .i64 b) := hst.cell 0 0 rfl rfl
    have k01 : wr.cell? ⟨w.heap.size, 1, none⟩ = some (.slice A cs.length c) := hst.cell 0 1 rfl rfl
    have hbw := hst.below
    have hcsk : ∀ c ∈ cs.take k, 1 ≤ c.2 ∧ c.2 ≤ 1125899906842624 := fun c hc => HCS.out c (List.mem_of_mem_take hc)
    have l1 := belF_bd (P := P1) hcsk
    have l2 := belF_bd (P := P2) hcsk
    have l3 := tot_bd (cs.take k) hcsk
    simp only [List.length_take] at l3
    rw [← HLE.out] at l1
    rw [← HMO.out] at l2
    clear hst hcsk
    by_cases hlt : k < cs.length
    · obtain ⟨bk, o, x, m, hA, _, hbk, hx, c0, c1⟩ := (HR.out.below hbw (Nat.le_refl _)).at2 hlt
      subst hA
      have hX := (HG.out.2.2.2.1 (x, m) (List.mem_of_getElem? hx)).1
      have hm := HCS.out (x, m) (List.mem_of_getElem? hx)
      simp only at hX hm
      have N1 := belF_take (P := P1) hx
      have N2 := belF_take (P := P2) hx
      rw [← HLE.out, (HP.out x).1] at N1
      rw [← HMO.out, (HP.out x).2] at N2
      have HN1 := Lib.hid N1
      have HN2 := Lib.hid N2
      have hki : (k : Int) < (cs.length : Int) := by omega
      have H5 := Lib.hid (fun W => high_any b x W hb2 hb8 hX.1 hX.2)
      have hlow : lowR b x = loB b x := (lowR_pos b x hb2 hb8 hX.1 hX.2).1
      have hmx := maxB_bd b hb2 hb8
      have H6 := Lib.hid (fun W => low_any b x W hb2 hb8 (by omega))
      rw [hlow] at H6
      obtain ⟨hi, hhi⟩ : ∃ z, z = hiB b x := ⟨_, rfl⟩
      obtain ⟨lo, hlo⟩ : ∃ z, z = loB b x := ⟨_, rfl⟩
      rw [← hhi] at H5 HN1
      rw [← hlo] at H6 HN2
      clear hx N1 N2 hbw hlow hhi hlo hmx
      by_cases c1' : hi ≤ v
      · have t1 : decide (hi ≤ v) = true := by simpa using c1'
        rw [t1] at HN1
        by_cases c2' : lo ≤ v
        · have t2 : decide (lo ≤ v) = true := by simpa using c2'
          rw [t2] at HN2
          go_wp2_with fail
          go_quiet ((go_at_call 106; first | exact quiet_left (H5.out _) | exact quiet_add_left (H5.out _)))
          go_wp2_with fail
          go_quiet ((go_at_call 96; first | exact quiet_add_left (H6.out _) | exact quiet_left (H6.out _)))
          go_wp2
          go_roundw
          case rel => exact ⟨k + 1, by omega, by go_num, le + m, mo + m, rfl, rfl, Lib.hid (by rw [HN1.out]; simp), Lib.hid (by rw [HN2.out]; simp), HST.out.drewN _⟩
          case measure => simp [intOf]; omega
        · have t2 : decide (lo ≤ v) = false := by simpa using c2'
          rw [t2] at HN2
          go_wp2_with fail
          go_quiet ((go_at_call 106; first | exact quiet_left (H5.out _) | exact quiet_add_left (H5.out _)))
          go_wp2_with fail
          go_quiet ((go_at_call 96; first | exact quiet_add_left (H6.out _) | exact quiet_left (H6.out _)))
          go_wp2
          go_roundw
          case rel => exact ⟨k + 1, by omega, by go_num, le + m, mo, rfl, rfl, Lib.hid (by rw [HN1.out]; simp), Lib.hid (by rw [HN2.out]; simp), HST.out.drewN _⟩
          case measure => simp [intOf]; omega
      · have t1 : decide (hi ≤ v) = false := by simpa using c1'
        rw [t1] at HN1
        by_cases c2' : lo ≤ v
        · have t2 : decide (lo ≤ v) = true := by simpa using c2'
          rw [t2] at HN2
          go_wp2_with fail
          go_quiet ((go_at_call 106; first | exact quiet_left (H5.out _) | exact quiet_add_left (H5.out _)))
          go_wp2_with fail
          go_quiet ((go_at_call 96; first | exact quiet_add_left (H6.out _) | exact quiet_left (H6.out _)))
          go_wp2
          go_roundw
          case rel => exact ⟨k + 1, by omega, by go_num, le, mo + m, rfl, rfl, Lib.hid (by rw [HN1.out]; simp), Lib.hid (by rw [HN2.out]; simp), HST.out.drewN _⟩
          case measure => simp [intOf]; omega
        · have t2 : decide (lo ≤ v) = false := by simpa using c2'
          rw [t2] at HN2
          go_wp2_with fail
          go_quiet ((go_at_call 106; first | exact quiet_left (H5.out _) | exact quiet_add_left (H5.out _)))
          go_wp2_with fail
          go_quiet ((go_at_call 96; first | exact quiet_add_left (H6.out _) | exact quiet_left (H6.out _)))
          go_wp2
          go_roundw
          case rel => exact ⟨k + 1, by omega, by go_num, le, mo, rfl, rfl, Lib.hid (by rw [HN1.out]; simp), Lib.hid (by rw [HN2.out]; simp), HST.out.drewN _⟩
          case measure => simp [intOf]; omega
    · have hfin : cs.take k = cs := List.take_of_length_le (by omega)
      rw [hfin] at HLE HMO
      have HE := Lib.hid (show leB b v cs = le ∧ moB b v cs = mo from ⟨HF.out.1.trans HLE.out.symm, HF.out.2.trans HMO.out.symm⟩)
      clear hfin
      go_wp2
      go_ret2
      exact ⟨by rw [HE.out.1, HE.out.2]; rfl, hbw⟩
end Go.Proofs.YtepfmoaihhonlaaGreatDoor
