/- The reference's Check and total. -/
import Derived.Test.YtepfmoaihhonlaaGreatDoorG2
import Derived.Test.YtepfmoaihhonlaaGreatDoorChk
namespace Go.Proofs.YtepfmoaihhonlaaGreatDoor
open Go Go.RowKit Go.Proofs Go.Maps

/-- the sum as the reference keeps it -/
def minT (t : Int) : Int := if t ≤ 1125899906842625 then t else 1125899906842625
theorem minT_bd (t : Int) (h : 0 ≤ t) : 0 ≤ minT t ∧ minT t ≤ 1125899906842625 := by unfold minT; split <;> omega
theorem minT_gt (t : Int) : 1125899906842624 < minT t ↔ 1125899906842624 < t := by unfold minT; split <;> omega
theorem minT_step (t m : Int) (h : 1 ≤ m) : minT (t + m) = min (minT t + m) 1125899906842625 := by unfold minT; repeat' split <;> omega
theorem lowR_no {b x : Int} (h : fineK b x = false) : lowR b x = -1 := lowR_neg b x (by simp [fineK] at h; omega)
theorem lowR_yes {b x : Int} (hb : 2 ≤ b) (hb' : b ≤ 8) (h : fineK b x = true) : 0 ≤ lowR b x := by
  simp [fineK] at h
  exact (lowR_pos b x hb hb' h.1 h.2).2.1
theorem chkRel_alloc0 {w wr : World} {b : Int} {A : Option Addr} {n c : Nat} {cs : List (Int × Int)} {k : Nat} (h : ChkRel w wr b A n c cs k) (o : Obj) (q : Nat) (hk : k + 1 ≤ n) (hs : stepH b cs k = 0) : ChkRel w ((wr.alloc o).drewN q) b A n c cs (k + 1) := chkRel_alloc h o q hk hs

set_option maxHeartbeats 2000000 in
theorem rcheck_any (b : Int) (A : Option Addr) (n c : Nat) (cs : List (Int × Int)) (w : World) (hr : Rd w 0 w.heap.size 2 A n (cells2 cs)) (hn : n < 9223372036854775807) (hcx : ∀ c ∈ cs, c.1 ≤ 9223372036854775807) :
    Calls Tryz.prog 101 #[.agg #[.int .i64 b, .slice A n c]] w fun e w' => e = .returned (.int .i64 (codeH b cs)) ∧ Below w.heap.size w w' := by
  have hl : cs.length = n := by have := hr.1; rw [cells2_length] at this; omega
  have HR := Lib.hid hr
  have HL := Lib.hid hl
  have HCX := Lib.hid hcx
  clear hr hl hcx
  cases hfb : fineB b with
  | false =>
    have HC := Lib.hid (codeH_bad (cs := cs) hfb)
    go_enter Tryz.func101, Tryz.ntmps101
    go_wp2_with (go_at_call 154; refine (fineBits_any _ _).mono ?_; rintro e w' ⟨rfl, rfl⟩)
    go_ret
    exact ⟨by rw [HC.out]; rfl, (Below.refl _ w).alloc (Nat.le_refl _) _⟩
  | true =>
    have hfb' := hfb
    simp [fineB] at hfb'
    obtain ⟨hb1, hb2⟩ := hfb'
    go_enter Tryz.func101, Tryz.ntmps101
    go_wp2_with (go_at_call 154; refine (fineBits_any _ _).mono ?_; rintro e w' ⟨rfl, rfl⟩)
    go_loopw [3, 4, 5] (fun s i _ wr => ∃ k : Nat, i = .int .i64 k ∧ s = .int .i64 (minT (tot (cs.take k))) ∧ ChkRel w wr b A n c cs k) (fun _ i _ _ => n - (intOf i).toNat)
    case atStart => exact ⟨0, rfl, by simp [tot, minT], Nat.zero_le _, fun j hj => by omega, (Below.refl _ w).alloc (Nat.le_refl _) _, by simp, alloc_at _ _ _ rfl⟩
    case round =>
      obtain ⟨k, rfl, rfl, hrel⟩ := hrel
      obtain ⟨hk, hok, hbw, hsz, hbx⟩ := id hrel
      have e0 : wr.cell? ⟨w.heap.size, 0, none⟩ = some (.int .i64 b) := by rw [cellsAt hbx]; rfl
      have e1 : wr.cell? ⟨w.heap.size, 1, none⟩ = some (.slice A n c) := by rw [cellsAt hbx]; rfl
      have HREL := Lib.hid hrel
      have HOK := Lib.hid hok
      have hsm := okTo_small hb1 hb2 k hok
      have hb1' := tot_bd (cs.take k) (okTo_mem hok (by have := HL.out; omega))
      simp only [List.length_take] at hb1'
      clear hrel hok hbx
      by_cases hlt : k < n
      · obtain ⟨bk, o, x, m, rfl, _, hbk, hx, c0, c1⟩ := (HR.out.below hbw (Nat.le_refl _)).at2 hlt
        have ht := tot_take cs k x m hx
        have HT := Lib.hid ht
        have HX := Lib.hid hx
        clear ht
        have hxx : x ≤ 9223372036854775807 := HCX.out (x, m) (List.mem_of_getElem? hx)
        have hmt := minT_bd (tot (cs.take k)) (by omega)
        cases hfk : fineK b x with
        | false =>
          have hlo := lowR_no hfk
          have HC := Lib.hid ((codeH_at hfb (by have := HL.out; omega) HOK.out (by rw [step_no hx hfk]; omega)).trans (step_no hx hfk))
          clear hx
          go_wp2_with (go_at_call 96; refine (low_any _ _ _ hb1 hb2 (by omega)).mono ?_; rintro e w' ⟨rfl, rfl⟩)
          go_ret
          exact ⟨by rw [HC.out]; rfl, by repeat (first | exact hbw | refine below_drewN ?_ _ | refine Below.alloc ?_ (by omega) _)⟩
        | true =>
          have hlo := lowR_yes hb1 hb2 hfk
          have hne : bk ≠ wr.heap.size := by omega
          have hbl : bk < wr.heap.size := by omega
          by_cases hk0 : 0 < k
          · have hd0 : decide ((0 : Int) < (k : Int)) = true := by simp; omega
            obtain ⟨bk', o', y, l, e, _, _, hy, p0, _⟩ := (HR.out.below hbw (Nat.le_refl _)).at2 (show k - 1 < n by omega)
            injection e with e
            injection e with e1' e2'
            subst e1' e2'
            have HW1 := Lib.hid (show IntKind.i64.wrap ((k : Int) - 1) = (k : Int) - 1 from IntWalk.i64_in _ (by omega))
            have HW2 := Lib.hid (show ((k : Int) - 1).toNat = k - 1 by omega)
            have hk1 : (0 : Int) ≤ (k : Int) - 1 := by omega
            have hk2 : (1 : Int) ≤ (k : Int) := by omega
            have hk3 : (k : Int) - 1 < (n : Int) := by omega
            have hk4 : 1 ≤ k := by omega
            by_cases hxy : x ≤ y
            · have hd3 : decide (x ≤ y) = true := by simpa using hxy
              have hst : stepH b cs k = 10 := by
                obtain ⟨k', rfl⟩ : ∃ k', k = k' + 1 := ⟨k - 1, by omega⟩
                exact step_order hx hy hfk hxy
              have HC := Lib.hid ((codeH_at hfb (by have := HL.out; omega) HOK.out (by rw [hst]; omega)).trans hst)
              clear hst hx hy
              go_wp2_with (go_at_call 96; refine (low_any _ _ _ hb1 hb2 (by omega)).mono ?_; rintro e w' ⟨rfl, rfl⟩)
              have hw1 := HW1.out
              have hw2 := HW2.out
              go_quiet (fail)
              clear hw1 hw2
              go_wp2
              go_ret
              exact ⟨by rw [HC.out]; rfl, by repeat (first | exact hbw | refine below_drewN ?_ _ | refine Below.alloc ?_ (by omega) _)⟩
            · have hd3 : decide (x ≤ y) = false := by simpa using hxy
              have HS := Lib.hid (step_num hx hfk (.inr ⟨y, l, hy, by omega⟩))
              clear hx hy
              by_cases hm1 : m < 1
              · have hd1 : decide (m < 1) = true := by simpa using hm1
                have HC := Lib.hid ((codeH_at hfb (by have := HL.out; omega) HOK.out (by rw [HS.out, if_pos (.inl hm1)]; omega)).trans (HS.out.trans (if_pos (.inl hm1))))
                go_wp2_with (go_at_call 96; refine (low_any _ _ _ hb1 hb2 (by omega)).mono ?_; rintro e w' ⟨rfl, rfl⟩)
                have hw1 := HW1.out
                have hw2 := HW2.out
                go_quiet (fail)
                clear hw1 hw2
                go_wp2
                go_ret
                exact ⟨by rw [HC.out]; rfl, by repeat (first | exact hbw | refine below_drewN ?_ _ | refine Below.alloc ?_ (by omega) _)⟩
              · have hd1 : decide (m < 1) = false := by simpa using hm1
                by_cases hm2 : 1125899906842624 < m
                · have hd2 : decide (1125899906842624 < m) = true := by simpa using hm2
                  have HC := Lib.hid ((codeH_at hfb (by have := HL.out; omega) HOK.out (by rw [HS.out, if_pos (.inr hm2)]; omega)).trans (HS.out.trans (if_pos (.inr hm2))))
                  go_wp2_with (go_at_call 96; refine (low_any _ _ _ hb1 hb2 (by omega)).mono ?_; rintro e w' ⟨rfl, rfl⟩)
                  have hw1 := HW1.out
                  have hw2 := HW2.out
                  go_quiet (fail)
                  clear hw1 hw2
                  go_wp2
                  go_ret
                  exact ⟨by rw [HC.out]; rfl, by repeat (first | exact hbw | refine below_drewN ?_ _ | refine Below.alloc ?_ (by omega) _)⟩
                · have hd2 : decide (1125899906842624 < m) = false := by simpa using hm2
                  have HN := Lib.hid (HS.out.trans (if_neg (by omega)))
                  go_wp2_with (go_at_call 96; refine (low_any _ _ _ hb1 hb2 (by omega)).mono ?_; rintro e w' ⟨rfl, rfl⟩)
                  have hw1 := HW1.out
                  have hw2 := HW2.out
                  go_quiet (fail)
                  clear hw1 hw2
                  go_wp2
                  go_roundw
                  case rel => exact ⟨k + 1, by go_num, by rw [HT.out, minT_step _ _ (by omega)], by first | exact chkRel_alloc0 HREL.out _ _ (by omega) HN.out | (rw [World.drewN_drewN]; exact chkRel_alloc0 HREL.out _ _ (by omega) HN.out)⟩
                  case measure => simp [intOf]; omega
          · have hd0 : decide ((0 : Int) < (k : Int)) = false := by simp; omega
            have HS := Lib.hid (step_num hx hfk (.inl (by omega)))
            clear hx
            by_cases hm1 : m < 1
            · have hd1 : decide (m < 1) = true := by simpa using hm1
              have HC := Lib.hid ((codeH_at hfb (by have := HL.out; omega) HOK.out (by rw [HS.out, if_pos (.inl hm1)]; omega)).trans (HS.out.trans (if_pos (.inl hm1))))
              go_wp2_with (go_at_call 96; refine (low_any _ _ _ hb1 hb2 (by omega)).mono ?_; rintro e w' ⟨rfl, rfl⟩)
              go_quiet (fail)
              go_wp2
              go_ret
              exact ⟨by rw [HC.out]; rfl, by repeat (first | exact hbw | refine below_drewN ?_ _ | refine Below.alloc ?_ (by omega) _)⟩
            · have hd1 : decide (m < 1) = false := by simpa using hm1
              by_cases hm2 : 1125899906842624 < m
              · have hd2 : decide (1125899906842624 < m) = true := by simpa using hm2
                have HC := Lib.hid ((codeH_at hfb (by have := HL.out; omega) HOK.out (by rw [HS.out, if_pos (.inr hm2)]; omega)).trans (HS.out.trans (if_pos (.inr hm2))))
                go_wp2_with (go_at_call 96; refine (low_any _ _ _ hb1 hb2 (by omega)).mono ?_; rintro e w' ⟨rfl, rfl⟩)
                go_quiet (fail)
                go_wp2
                go_ret
                exact ⟨by rw [HC.out]; rfl, by repeat (first | exact hbw | refine below_drewN ?_ _ | refine Below.alloc ?_ (by omega) _)⟩
              · have hd2 : decide (1125899906842624 < m) = false := by simpa using hm2
                have HN := Lib.hid (HS.out.trans (if_neg (by omega)))
                go_wp2_with (go_at_call 96; refine (low_any _ _ _ hb1 hb2 (by omega)).mono ?_; rintro e w' ⟨rfl, rfl⟩)
                go_quiet (fail)
                go_wp2
                go_roundw
                case rel => exact ⟨k + 1, by go_num, by rw [HT.out, minT_step _ _ (by omega)], by first | exact chkRel_alloc0 HREL.out _ _ (by omega) HN.out | (rw [World.drewN_drewN]; exact chkRel_alloc0 HREL.out _ _ (by omega) HN.out)⟩
                case measure => simp [intOf]; omega
      · have hfull : okTo b cs cs.length := by have := HL.out; rw [show cs.length = k by omega]; exact HOK.out
        have hcd := codeH_end hfb hfull
        have htk : cs.take k = cs := List.take_of_length_le (by have := HL.out; omega)
        rw [htk] at hb1' ⊢
        have hmt := minT_bd (tot cs) (by omega)
        have hmt2 := minT_gt (tot cs)
        have HMT2 := Lib.hid hmt2
        clear hmt2
        have HC := Lib.hid hcd
        clear hcd hfull htk
        by_cases hbig : 1125899906842624 < tot cs
        · have hb3 := HMT2.out.2 hbig
          go_wp2
          go_ret
          exact ⟨by rw [HC.out, if_pos hbig]; rfl, hbw⟩
        · have hb3 : ¬ 1125899906842624 < minT (tot cs) := fun h => hbig (HMT2.out.1 h)
          go_wp2
          go_ret
          exact ⟨by rw [HC.out, if_neg (by omega)]; rfl, hbw⟩

set_option maxHeartbeats 1000000 in
theorem rtotal_any (b : Int) (A : Option Addr) (n c : Nat) (cs : List (Int × Int)) (w : World) (hr : Rd w 0 w.heap.size 2 A n (cells2 cs)) (hcs : ∀ c ∈ cs, 1 ≤ c.2 ∧ c.2 ≤ 1125899906842624) (hs : n ≤ 6001) :
    Calls Tryz.prog 94 #[.agg #[.int .i64 b, .slice A n c]] w fun e w' => e = .returned (.int .i64 (tot cs)) ∧ Below w.heap.size w w' := by
  have hl : cs.length = n := by have := hr.1; rw [cells2_length] at this; omega
  have HR := Lib.hid hr
  have HL := Lib.hid hl
  have HC := Lib.hid hcs
  clear hr hl hcs
  go_enter Tryz.func94, Tryz.ntmps94
  go_wp2
  go_loopw [3, 4] (fun s i wr => ∃ k : Nat, k ≤ n ∧ i = .int .i64 k ∧ s = .int .i64 (tot (cs.take k)) ∧ Below w.heap.size w wr ∧ w.heap.size < wr.heap.size ∧ wr.heap[w.heap.size]? = some (.cells #[.int .i64 b, .slice A n c] 53 (0, 0))) (fun _ i _ => n - (intOf i).toNat)
  case atStart => exact ⟨0, Nat.zero_le _, rfl, by simp [tot], (Below.refl _ w).alloc (Nat.le_refl _) _, by simp, alloc_at _ _ _ rfl⟩
  case round =>
    obtain ⟨k, hk, rfl, rfl, hbw, hsz, hbx⟩ := hrel
    have e1 : wr.cell? ⟨w.heap.size, 1, none⟩ = some (.slice A n c) := by rw [cellsAt hbx]; rfl
    have HBX := Lib.hid hbx
    clear hbx
    by_cases hlt : k < n
    · obtain ⟨bk, o, x, m, rfl, _, hbk, hx, c0, c1⟩ := (HR.out.below hbw (Nat.le_refl _)).at2 hlt
      have ht := tot_take cs k x m hx
      have hb1 := tot_bd (cs.take k) (fun c hc => HC.out c (List.mem_of_mem_take hc))
      have hm := HC.out (x, m) (List.mem_of_getElem? hx)
      simp only [List.length_take] at hb1 hm
      have HT := Lib.hid ht
      clear ht hx
      go_wp2
      go_roundw
      case rel => exact ⟨k + 1, by omega, by go_num, by rw [HT.out], hbw, hsz, HBX.out⟩
      case measure => simp [intOf]; omega
    · go_wp2
      go_ret
      exact ⟨by rw [List.take_of_length_le (by have := HL.out; omega)]; rfl, hbw⟩
end Go.Proofs.YtepfmoaihhonlaaGreatDoor
