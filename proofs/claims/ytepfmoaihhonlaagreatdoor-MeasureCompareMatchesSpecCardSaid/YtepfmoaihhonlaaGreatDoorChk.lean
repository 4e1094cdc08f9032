/- Check and total, of the program and of the reference. -/
import Derived.Test.YtepfmoaihhonlaaGreatDoorOf
namespace Go.Proofs.YtepfmoaihhonlaaGreatDoor
open Go Go.RowKit Go.Proofs Go.Maps

theorem cells2_get {cs : List (Int × Int)} {i : Nat} {x n : Int} (h : cs[i]? = some (x, n)) : (cells2 cs)[i * 2]? = some (.int .i64 x) ∧ (cells2 cs)[i * 2 + 1]? = some (.int .i64 n) := by
  induction cs generalizing i with
  | nil => simp at h
  | cons c cs ih =>
    rcases i with _ | i
    · simp at h; subst h; simp [cells2]
    · have := ih (i := i) (by simpa using h)
      have e1 : (i + 1) * 2 = i * 2 + 1 + 1 := by omega
      rw [e1]
      simpa [cells2] using this
theorem Rd.at2 {w : World} {L B n i : Nat} {A : Option Addr} {cs : List (Int × Int)} (h : Rd w L B 2 A n (cells2 cs)) (hi : i < n) :
    ∃ b o x m, A = some ⟨b, o, none⟩ ∧ L ≤ b ∧ b < B ∧ cs[i]? = some (x, m) ∧ w.cell? ⟨b, o + i * 2, none⟩ = some (.int .i64 x) ∧ w.cell? ⟨b, o + i * 2 + 1, none⟩ = some (.int .i64 m) := by
  obtain ⟨b, o, e, hl, hb, hc⟩ := h.2 (by omega)
  have hlen : cs.length = n := by have := h.1; rw [cells2_length] at this; omega
  obtain ⟨⟨x, m⟩, hx⟩ : ∃ p, cs[i]? = some p := ⟨cs[i]'(by omega), List.getElem?_eq_getElem (by omega)⟩
  have hg := cells2_get hx
  exact ⟨b, o, x, m, e, hl, hb, hx, hc _ _ hg.1, by have := hc _ _ hg.2; rwa [← Nat.add_assoc] at this⟩

/-- the sum of the numbers -/
def tot (cs : List (Int × Int)) : Int := (cs.map (·.2)).sum
theorem tot_take (cs : List (Int × Int)) (i : Nat) (x n : Int) (h : cs[i]? = some (x, n)) : tot (cs.take (i + 1)) = tot (cs.take i) + n := by
  rw [List.take_add_one, h]; simp [tot]
/-- every number in bounds: the sums are -/
theorem tot_bd (cs : List (Int × Int)) (h : ∀ c ∈ cs, 1 ≤ c.2 ∧ c.2 ≤ 1125899906842624) : cs.length ≤ tot cs ∧ tot cs ≤ cs.length * 1125899906842624 := by
  induction cs with
  | nil => simp [tot]
  | cons c cs ih =>
    have := ih (fun x hx => h x (by simp [hx]))
    have h1 := h c (by simp)
    simp only [tot, List.map_cons, List.sum_cons, List.length_cons] at *
    omega
/-- what Check finds at a place -/
def stepH (b : Int) (cs : List (Int × Int)) (j : Nat) : Int :=
  if fineK b (cs.getD j (0, 0)).1 then (if 0 < j ∧ (cs.getD j (0, 0)).1 ≤ (cs.getD (j - 1) (0, 0)).1 then 10 else if (cs.getD j (0, 0)).2 < 1 ∨ 1125899906842624 < (cs.getD j (0, 0)).2 then 9 else 0) else 9
def okTo (b : Int) (cs : List (Int × Int)) (i : Nat) : Prop := ∀ j, j < i → stepH b cs j = 0
theorem okTo_step {b : Int} {cs : List (Int × Int)} {j : Nat} (h : stepH b cs j = 0) : fineK b (cs.getD j (0, 0)).1 = true ∧ (0 < j → (cs.getD (j - 1) (0, 0)).1 < (cs.getD j (0, 0)).1) ∧ 1 ≤ (cs.getD j (0, 0)).2 ∧ (cs.getD j (0, 0)).2 ≤ 1125899906842624 := by
  unfold stepH at h
  split at h
  · rename_i hk
    split at h
    · omega
    · split at h
      · omega
      · exact ⟨hk, by omega, by omega, by omega⟩
  · omega
theorem okTo_ge {b : Int} {cs : List (Int × Int)} : ∀ (i j : Nat), okTo b cs i → j < i → (j : Int) ≤ (cs.getD j (0, 0)).1
  | i, 0, h, hj => by
    have := (okTo_step (h 0 hj)).1
    simp [fineK] at this
    simpa using this.1
  | i, j + 1, h, hj => by
    have h1 := okTo_ge i j h (by omega)
    have h2 := (okTo_step (h (j + 1) hj)).2.1 (by omega)
    simp only [Nat.add_sub_cancel] at h2
    omega
theorem okTo_small {b : Int} {cs : List (Int × Int)} (hb : 2 ≤ b) (hb' : b ≤ 8) (i : Nat) (h : okTo b cs i) : i ≤ 6001 := by
  rcases Nat.eq_zero_or_pos i with rfl | hp
  · omega
  · have h1 := okTo_ge i (i - 1) h (by omega)
    have h2 := (okTo_step (h (i - 1) (by omega))).1
    simp [fineK] at h2
    have h3 := maxB_bd b hb hb'
    simp at h1
    omega
theorem okTo_mem {b : Int} {cs : List (Int × Int)} {i : Nat} (h : okTo b cs i) (hi : i ≤ cs.length) : ∀ c ∈ cs.take i, 1 ≤ c.2 ∧ c.2 ≤ 1125899906842624 := by
  intro c hc
  obtain ⟨j, hj, e⟩ := List.getElem_of_mem hc
  simp only [List.length_take] at hj
  rw [List.getElem_take] at e
  have := (okTo_step (h j (by omega))).2.2
  rw [List.getD_eq_getElem?_getD, List.getElem?_eq_getElem (by omega), Option.getD_some, e] at this
  exact this
theorem getD_of {cs : List (Int × Int)} {i : Nat} {p : Int × Int} (h : cs[i]? = some p) : cs.getD i (0, 0) = p := by
  rw [List.getD_eq_getElem?_getD, h]; rfl
/-- what Check returns -/
def codeH (b : Int) (cs : List (Int × Int)) : Int :=
  if fineB b then (match (List.range cs.length).find? (fun j => stepH b cs j != 0) with | some j => stepH b cs j | none => if 1125899906842624 < tot cs then 3 else 0) else 9
theorem codeH_bad {b : Int} {cs : List (Int × Int)} (h : fineB b = false) : codeH b cs = 9 := by simp [codeH, h]
theorem codeH_at {b : Int} {cs : List (Int × Int)} {i : Nat} (h : fineB b = true) (hi : i < cs.length) (ho : okTo b cs i) (hs : stepH b cs i ≠ 0) : codeH b cs = stepH b cs i := by
  have : (List.range cs.length).find? (fun j => stepH b cs j != 0) = some i := by
    rw [List.find?_range_eq_some]
    refine ⟨by simpa using hs, by simpa using hi, fun j hj => ?_⟩
    simp [ho j hj]
  unfold codeH
  rw [if_pos h, this]
theorem codeH_end {b : Int} {cs : List (Int × Int)} (h : fineB b = true) (ho : okTo b cs cs.length) : codeH b cs = if 1125899906842624 < tot cs then 3 else 0 := by
  have : (List.range cs.length).find? (fun j => stepH b cs j != 0) = none := by
    rw [List.find?_range_eq_none]
    intro j hj
    simp [ho j hj]
  unfold codeH
  rw [if_pos h, this]

set_option maxHeartbeats 1000000 in
theorem total_any (b : Int) (A : Option Addr) (n c : Nat) (cs : List (Int × Int)) (w : World) (hr : Rd w 0 w.heap.size 2 A n (cells2 cs)) (hn : n ≤ 1000000) (hcs : ∀ c ∈ cs, 1 ≤ c.2 ∧ c.2 ≤ 1125899906842624) (hs : n ≤ 6001) :
    Calls Tryz.prog 88 #[.agg #[.int .i64 b, .slice A n c]] w fun e w' => e = .returned (.int .i64 (tot cs)) ∧ Below w.heap.size w w' := by
  have hl : cs.length = n := by have := hr.1; rw [cells2_length] at this; omega
  have HR := Lib.hid hr
  have HL := Lib.hid hl
  have HC := Lib.hid hcs
  clear hr hl hcs
  go_enter Tryz.func88, Tryz.ntmps88
  go_wp2
  go_loopw [3, 5, 9] (fun s _ i wr => ∃ k : Nat, k ≤ n ∧ i = .int .i64 k ∧ s = .int .i64 (tot (cs.take k)) ∧ Below w.heap.size w wr ∧ w.heap.size < wr.heap.size) (fun _ _ i _ => n - (intOf i).toNat)
  case atStart => exact ⟨0, Nat.zero_le _, rfl, by simp [tot], (Below.refl _ w).alloc (Nat.le_refl _) _, by simp⟩
  case round =>
    obtain ⟨k, hk, rfl, rfl, hbw, hsz⟩ := hrel
    by_cases hlt : k < n
    · obtain ⟨bk, o, x, m, rfl, _, hbk, hx, c0, c1⟩ := (HR.out.below hbw (Nat.le_refl _)).at2 hlt
      have ht := tot_take cs k x m hx
      have hb1 := tot_bd (cs.take k) (fun c hc => HC.out c (List.mem_of_mem_take hc))
      have hm := HC.out (x, m) (List.mem_of_getElem? hx)
      simp only [List.length_take] at hb1 hm
      have HT := Lib.hid ht
      clear ht hx
      go_wp2
      go_roundw
      case rel => exact ⟨k + 1, by omega, by go_num, by rw [HT.out], hbw.alloc (by omega) _, by simp; omega⟩
      case measure => simp [intOf]; omega
    · go_wp2
      go_ret
      exact ⟨by rw [List.take_of_length_le (by have := HL.out; omega)]; rfl, hbw⟩
theorem step_no {b : Int} {cs : List (Int × Int)} {k : Nat} {x m : Int} (hx : cs[k]? = some (x, m)) (h : fineK b x = false) : stepH b cs k = 9 := by
  unfold stepH; rw [getD_of hx]; simp [h]
theorem step_order {b : Int} {cs : List (Int × Int)} {k : Nat} {x m y l : Int} (hx : cs[k + 1]? = some (x, m)) (hy : cs[k]? = some (y, l)) (h : fineK b x = true) (h2 : x ≤ y) : stepH b cs (k + 1) = 10 := by
  unfold stepH; rw [getD_of hx, Nat.add_sub_cancel, getD_of hy]; simp [h, h2]
theorem step_num {b : Int} {cs : List (Int × Int)} {k : Nat} {x m : Int} (hx : cs[k]? = some (x, m)) (h : fineK b x = true) (h2 : k = 0 ∨ ∃ y l, cs[k - 1]? = some (y, l) ∧ y < x) : stepH b cs k = if m < 1 ∨ 1125899906842624 < m then 9 else 0 := by
  unfold stepH; rw [getD_of hx]
  rcases h2 with rfl | ⟨y, l, hy, hl⟩
  · simp [h]
  · rw [getD_of hy]; simp only [h, if_true]; rw [if_neg (by omega)]
theorem okTo_succ {b : Int} {cs : List (Int × Int)} {k : Nat} (h : okTo b cs k) (hs : stepH b cs k = 0) : okTo b cs (k + 1) := by
  intro j hj
  by_cases e : j = k
  · subst e; exact hs
  · exact h j (by omega)

/-- what the loop of Check keeps -/
def ChkRel (w wr : World) (b : Int) (A : Option Addr) (n c : Nat) (cs : List (Int × Int)) (k : Nat) : Prop :=
  k ≤ n ∧ okTo b cs k ∧ Below w.heap.size w wr ∧ w.heap.size < wr.heap.size ∧ wr.heap[w.heap.size]? = some (.cells #[.int .i64 b, .slice A n c] 53 (0, 0))
theorem chkRel_alloc {w wr : World} {b : Int} {A : Option Addr} {n c : Nat} {cs : List (Int × Int)} {k : Nat} (h : ChkRel w wr b A n c cs k) (o : Obj) (q : Nat) (hk : k + 1 ≤ n) (hs : stepH b cs k = 0) : ChkRel w ((wr.alloc o).drewN q) b A n c cs (k + 1) := by
  obtain ⟨h1, h2, h3, h4, h5⟩ := h
  exact ⟨hk, okTo_succ h2 hs, below_drewN (h3.alloc (by omega) _) _, by simp; omega, (Below.heap_alloc _ _ _ h4).trans h5⟩

set_option maxHeartbeats 2000000 in
theorem check_any (b : Int) (A : Option Addr) (n c : Nat) (cs : List (Int × Int)) (w : World) (hr : Rd w 0 w.heap.size 2 A n (cells2 cs)) (hn : n < 9223372036854775807) :
    Calls Tryz.prog 99 #[.agg #[.int .i64 b, .slice A n c]] w fun e w' => e = .returned (.int .i64 (codeH b cs)) ∧ Below w.heap.size w w' := by
  have hl : cs.length = n := by have := hr.1; rw [cells2_length] at this; omega
  have HR := Lib.hid hr
  have HL := Lib.hid hl
  clear hr hl
  cases hfb : fineB b with
  | false =>
    have HC := Lib.hid (codeH_bad (cs := cs) hfb)
    go_enter Tryz.func99, Tryz.ntmps99
    go_wp2_with (go_at_call 152; refine (bitsForm_any _ _).mono ?_; rintro e w' ⟨rfl, rfl⟩)
    go_ret
    exact ⟨by rw [HC.out]; rfl, (Below.refl _ w).alloc (Nat.le_refl _) _⟩
  | true =>
    have hfb' := hfb
    simp [fineB] at hfb'
    obtain ⟨hb1, hb2⟩ := hfb'
    go_enter Tryz.func99, Tryz.ntmps99
    go_wp2_with (go_at_call 152; refine (bitsForm_any _ _).mono ?_; rintro e w' ⟨rfl, rfl⟩)
    go_loopw [3, 4, 5, 13] (fun s _ _ i wr => ∃ k : Nat, i = .int .i64 k ∧ s = .int .i64 (tot (cs.take k)) ∧ ChkRel w wr b A n c cs k) (fun _ _ _ i _ => n - (intOf i).toNat)
    case atStart => exact ⟨0, rfl, by simp [tot], Nat.zero_le _, fun j hj => by omega, (Below.refl _ w).alloc (Nat.le_refl _) _, by simp, alloc_at _ _ _ rfl⟩
    case round =>
      obtain ⟨k, rfl, rfl, hrel⟩ := hrel
      obtain ⟨hk, hok, hbw, hsz, hbx⟩ := id hrel
      have e0 : wr.cell? ⟨w.heap.size, 0, none⟩ = some (.int .i64 b) := by rw [cellsAt hbx]; rfl
      have e1 : wr.cell? ⟨w.heap.size, 1, none⟩ = some (.slice A n c) := by rw [cellsAt hbx]; rfl
      have HREL := Lib.hid hrel
      have HOK := Lib.hid hok
      have hsm := okTo_small hb1 hb2 k hok
      have hb1' := tot_bd (cs.take k) (okTo_mem hok (by have := HL.out; omega))
      simp only [List.length_take] at hb1'
      clear hrel hok hbx
      by_cases hlt : k < n
      · obtain ⟨bk, o, x, m, rfl, _, hbk, hx, c0, c1⟩ := (HR.out.below hbw (Nat.le_refl _)).at2 hlt
        have ht := tot_take cs k x m hx
        have HT := Lib.hid ht
        have HX := Lib.hid hx
        clear ht
        cases hfk : fineK b x with
        | false =>
          have HC := Lib.hid ((codeH_at hfb (by have := HL.out; omega) HOK.out (by rw [step_no hx hfk]; omega)).trans (step_no hx hfk))
          clear hx
          go_wp2_with (go_at_call 153; refine (bucketForm_any _ _ _ hb1 hb2).mono ?_; rintro e w' ⟨rfl, q, rfl⟩)
          go_ret
          exact ⟨by rw [HC.out]; rfl, below_drewN (hbw.alloc (by omega) _) _⟩
        | true =>
          have hne : bk ≠ wr.heap.size := by omega
          have hbl : bk < wr.heap.size := by omega
          by_cases hk0 : 0 < k
          · have hd0 : decide ((0 : Int) < (k : Int)) = true := by simp; omega
            obtain ⟨bk', o', y, l, e, _, _, hy, p0, _⟩ := (HR.out.below hbw (Nat.le_refl _)).at2 (show k - 1 < n by omega)
            injection e with e
            injection e with e1' e2'
            subst e1' e2'
            have HW1 := Lib.hid (show IntKind.i64.wrap ((k : Int) - 1) = (k : Int) - 1 from IntWalk.i64_in _ (by omega))
            have HW2 := Lib.hid (show ((k : Int) - 1).toNat = k - 1 by omega)
            have hk1 : (0 : Int) ≤ (k : Int) - 1 := by omega
            have hk2 : (1 : Int) ≤ (k : Int) := by omega
            have hk3 : (k : Int) - 1 < (n : Int) := by omega
            have hk4 : 1 ≤ k := by omega
            by_cases hxy : x ≤ y
            · have hd3 : decide (x ≤ y) = true := by simpa using hxy
              have hst : stepH b cs k = 10 := by
                obtain ⟨k', rfl⟩ : ∃ k', k = k' + 1 := ⟨k - 1, by omega⟩
                exact step_order hx hy hfk hxy
              have HC := Lib.hid ((codeH_at hfb (by have := HL.out; omega) HOK.out (by rw [hst]; omega)).trans hst)
              clear hst hx hy
              go_wp2_with (go_at_call 153; refine (bucketForm_any _ _ _ hb1 hb2).mono ?_; rintro e w' ⟨rfl, q, rfl⟩)
              have hw1 := HW1.out
              have hw2 := HW2.out
              go_quiet (fail)
              clear hw1 hw2
              go_wp2
              go_ret
              exact ⟨by rw [HC.out]; rfl, by repeat (first | exact hbw | refine below_drewN ?_ _ | refine Below.alloc ?_ (by omega) _)⟩
            · have hd3 : decide (x ≤ y) = false := by simpa using hxy
              have HS := Lib.hid (step_num hx hfk (.inr ⟨y, l, hy, by omega⟩))
              clear hx hy
              by_cases hm1 : m < 1
              · have hd1 : decide (m < 1) = true := by simpa using hm1
                have HC := Lib.hid ((codeH_at hfb (by have := HL.out; omega) HOK.out (by rw [HS.out, if_pos (.inl hm1)]; omega)).trans (HS.out.trans (if_pos (.inl hm1))))
                go_wp2_with (go_at_call 153; refine (bucketForm_any _ _ _ hb1 hb2).mono ?_; rintro e w' ⟨rfl, q, rfl⟩)
                have hw1 := HW1.out
                have hw2 := HW2.out
                go_quiet (fail)
                clear hw1 hw2
                go_wp2
                go_ret
                exact ⟨by rw [HC.out]; rfl, by repeat (first | exact hbw | refine below_drewN ?_ _ | refine Below.alloc ?_ (by omega) _)⟩
              · have hd1 : decide (m < 1) = false := by simpa using hm1
                by_cases hm2 : 1125899906842624 < m
                · have hd2 : decide (1125899906842624 < m) = true := by simpa using hm2
                  have HC := Lib.hid ((codeH_at hfb (by have := HL.out; omega) HOK.out (by rw [HS.out, if_pos (.inr hm2)]; omega)).trans (HS.out.trans (if_pos (.inr hm2))))
                  go_wp2_with (go_at_call 153; refine (bucketForm_any _ _ _ hb1 hb2).mono ?_; rintro e w' ⟨rfl, q, rfl⟩)
                  have hw1 := HW1.out
                  have hw2 := HW2.out
                  go_quiet (fail)
                  clear hw1 hw2
                  go_wp2
                  go_ret
                  exact ⟨by rw [HC.out]; rfl, by repeat (first | exact hbw | refine below_drewN ?_ _ | refine Below.alloc ?_ (by omega) _)⟩
                · have hd2 : decide (1125899906842624 < m) = false := by simpa using hm2
                  have HN := Lib.hid (HS.out.trans (if_neg (by omega)))
                  go_wp2_with (go_at_call 153; refine (bucketForm_any _ _ _ hb1 hb2).mono ?_; rintro e w' ⟨rfl, q, rfl⟩)
                  have hw1 := HW1.out
                  have hw2 := HW2.out
                  go_quiet (fail)
                  clear hw1 hw2
                  go_wp2
                  go_roundw
                  case rel => exact ⟨k + 1, by go_num, by rw [HT.out], by first | exact chkRel_alloc HREL.out _ _ (by omega) HN.out | (rw [World.drewN_drewN]; exact chkRel_alloc HREL.out _ _ (by omega) HN.out)⟩
                  case measure => simp [intOf]; omega
          · have hd0 : decide ((0 : Int) < (k : Int)) = false := by simp; omega
            have HS := Lib.hid (step_num hx hfk (.inl (by omega)))
            clear hx
            by_cases hm1 : m < 1
            · have hd1 : decide (m < 1) = true := by simpa using hm1
              have HC := Lib.hid ((codeH_at hfb (by have := HL.out; omega) HOK.out (by rw [HS.out, if_pos (.inl hm1)]; omega)).trans (HS.out.trans (if_pos (.inl hm1))))
              go_wp2_with (go_at_call 153; refine (bucketForm_any _ _ _ hb1 hb2).mono ?_; rintro e w' ⟨rfl, q, rfl⟩)
              go_quiet (fail)
              go_wp2
              go_ret
              exact ⟨by rw [HC.out]; rfl, by repeat (first | exact hbw | refine below_drewN ?_ _ | refine Below.alloc ?_ (by omega) _)⟩
            · have hd1 : decide (m < 1) = false := by simpa using hm1
              by_cases hm2 : 1125899906842624 < m
              · have hd2 : decide (1125899906842624 < m) = true := by simpa using hm2
                have HC := Lib.hid ((codeH_at hfb (by have := HL.out; omega) HOK.out (by rw [HS.out, if_pos (.inr hm2)]; omega)).trans (HS.out.trans (if_pos (.inr hm2))))
                go_wp2_with (go_at_call 153; refine (bucketForm_any _ _ _ hb1 hb2).mono ?_; rintro e w' ⟨rfl, q, rfl⟩)
                go_quiet (fail)
                go_wp2
                go_ret
                exact ⟨by rw [HC.out]; rfl, by repeat (first | exact hbw | refine below_drewN ?_ _ | refine Below.alloc ?_ (by omega) _)⟩
              · have hd2 : decide (1125899906842624 < m) = false := by simpa using hm2
                have HN := Lib.hid (HS.out.trans (if_neg (by omega)))
                go_wp2_with (go_at_call 153; refine (bucketForm_any _ _ _ hb1 hb2).mono ?_; rintro e w' ⟨rfl, q, rfl⟩)
                go_quiet (fail)
                go_wp2
                go_roundw
                case rel => exact ⟨k + 1, by go_num, by rw [HT.out], by first | exact chkRel_alloc HREL.out _ _ (by omega) HN.out | (rw [World.drewN_drewN]; exact chkRel_alloc HREL.out _ _ (by omega) HN.out)⟩
                case measure => simp [intOf]; omega
      · have hfull : okTo b cs cs.length := by have := HL.out; rw [show cs.length = k by omega]; exact HOK.out
        have hcd := codeH_end hfb hfull
        have htk : cs.take k = cs := List.take_of_length_le (by have := HL.out; omega)
        rw [htk] at hb1' ⊢
        have HC := Lib.hid hcd
        clear hcd hfull htk
        by_cases hbig : 1125899906842624 < tot cs
        · go_wp2
          go_ret
          exact ⟨by rw [HC.out, if_pos hbig]; rfl, hbw⟩
        · go_wp2
          go_ret
          exact ⟨by rw [HC.out, if_neg (by omega)]; rfl, hbw⟩
end Go.Proofs.YtepfmoaihhonlaaGreatDoor
