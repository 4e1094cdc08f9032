/- MeasureBusyIsTheArea: the area under the number of requests that are under way is the sum of the times that they took: for every input, no condition. -/
import Derived.Test.YtgmbgclhljobaaaCounts
import Derived.Test.YtgmbgclhljobaaaBusy
namespace Go.Proofs.Ytgmbgclhljobaaa
open Go Go.RowKit Go.Proofs Go.Maps

def tk (l : List Smp) : Int := (l.map (·.d)).sum
theorem tk_take (l : List Smp) (k : Nat) (s : Smp) (h : l[k]? = some s) : tk (l.take (k + 1)) = tk (l.take k) + s.d := by
  unfold tk; rw [List.take_add_one, h]; simp
theorem tk_bd (l : List Smp) (h : ∀ s ∈ l, 0 ≤ s.d ∧ s.d ≤ 1000000000000) : 0 ≤ tk l ∧ tk l ≤ l.length * 1000000000000 := by
  induction l with
  | nil => simp [tk]
  | cons s l ih =>
    have h1 := ih (fun x hx => h x (by simp [hx]))
    have h2 := h s (by simp)
    simp only [tk, List.map_cons, List.sum_cons, List.length_cons] at *
    omega
theorem tk_pts (l : List Smp) : ((pts l).map (·.2)).sum = tk l := by simp [pts, tk, Function.comp_def]

set_option maxHeartbeats 2000000 in
set_option maxRecDepth 100000 in
theorem busy_bad (A : Option Addr) (n c : Nat) (l : List Smp) (w : World) (hr : SmpR w w.heap.size A n l) (hn : n ≤ maxLen) (hc : codeS n l ≠ 0) :
    Calls Try.prog 5 #[.slice A n c] w fun e w' => e = .returned (.bool true) ∧ Below w.heap.size w w' := by
  have HB := Lib.hid (Busy_bad A n c l w hr hn hc)
  obtain ⟨cd, hcd⟩ : ∃ cd, cd = codeS n l := ⟨_, rfl⟩
  rw [← hcd] at hc HB
  clear hcd hr hn
  have tc : (cd == 0) = false := by simpa using hc
  have tc' : (cd != 0) = true := by simpa using hc
  go_enter Try.func5, Try.ntmps5
  go_wp2_with fail
  refine HB.out.mono ?_
  rintro e w1 ⟨rfl, hb1⟩
  clear HB
  have HB1 := Lib.hid hb1
  clear hb1
  go_wp2_with fail
  refine (counts_any _).mono ?_
  rintro e w3 ⟨rfl, hb3⟩
  go_wp2
  go_ret
  exact ⟨rfl, below_next HB1.out hb3⟩

set_option maxHeartbeats 4000000 in
set_option maxRecDepth 100000 in
theorem busy_main (A : Option Addr) (n c : Nat) (l : List Smp) (w : World) (hr : SmpR w w.heap.size A n l) (hn : n ≤ maxLen) (hc : codeS n l = 0) :
    Calls Try.prog 5 #[.slice A n c] w fun e w' => e = .returned (.bool true) ∧ Below w.heap.size w w' := by
  obtain ⟨hn2, hfine⟩ := codeS_zero hc
  have HB := Lib.hid (Busy_ok A n c l w hr hn hc)
  have HL := Lib.hid hr.len
  have HR := Lib.hid hr
  have HF := Lib.hid hfine
  have htk := fun k => tk_bd (l.take k) (fun s hs => (hfine s (List.mem_of_mem_take hs)).2.2)
  have HT := Lib.hid htk
  clear hr hc hfine hn htk
  go_enter Try.func5, Try.ntmps5
  go_wp2_with fail
  refine HB.out.mono ?_
  rintro e w1 ⟨A', ts, rfl, hso, hmem, htl, hrd, hb1⟩
  clear HB
  have hp0 : ∀ s ∈ pts l, 0 ≤ s.1 ∧ s.1 ≤ 1000000000000 ∧ 0 ≤ s.2 ∧ s.2 ≤ 1000000000000 := by
    intro s hs
    simp only [pts, List.mem_map] at hs
    obtain ⟨x, hx, rfl⟩ := hs
    exact HF.out x hx
  obtain ⟨ha, hlast, hbd, hsc⟩ := area_law (pts l) (fun s hs => (hp0 s hs).2.2.1) ts hso hmem
  rw [tk_pts] at ha
  have hcl := chg_length (stp (pts l)) ts
  have hbd' : ∀ x ∈ chg (stp (pts l)) ts, 0 ≤ x.1 ∧ x.1 ≤ 2000000000000 ∧ 0 ≤ x.2 ∧ x.2 ≤ 20000 := by
    intro x hx
    obtain ⟨h1, h2, h3⟩ := hbd x hx
    obtain ⟨s, hs, e⟩ := mem_tms.1 h1
    have := hp0 s hs
    rw [pts_length, HL.out] at h3
    omega
  have hart := fun k => ar_take _ hsc (fun x hx => (hbd' x hx).2.2.1) k
  have htot := HT.out l.length
  rw [List.take_length, HL.out] at htot
  clear hbd hp0 hmem hso
  generalize hcs : chg (stp (pts l)) ts = cs at *
  have HA := Lib.hid ha
  have HLA := Lib.hid hlast
  have HBD := Lib.hid hbd'
  have HSC := Lib.hid hsc
  have HAT := Lib.hid hart
  have HRD := Lib.hid (hrd.more (Nat.zero_le _) (Nat.le_refl _))
  have HB1 := Lib.hid hb1
  clear ha hlast hbd' hsc hart hrd hb1 hcs
  go_wp2
  go_loopw [5, 7] (fun s i wr => ∃ k : Nat, k ≤ cs.length ∧ i = .int .i64 k ∧ s = .int .i64 (ar (cs.take (k + 1))) ∧ Below w1.heap.size w1 wr) (fun _ i _ => cs.length - (intOf i).toNat)
  case atStart => exact ⟨0, Nat.zero_le _, rfl, by cases cs <;> simp [ar], Below.refl _ _⟩
  case round =>
    obtain ⟨wo, hwo⟩ : ∃ wo : World, wo = wr := ⟨_, rfl⟩
    subst hwo
    obtain ⟨k, hk, rfl, rfl, hbw⟩ := hrel
    have HBW := Lib.hid hbw
    have har := HAT.out (k + 1)
    rw [HA.out] at har
    by_cases hlt : k < cs.length
    · obtain ⟨bk, o, x, u, rfl, _, hbk, hx, c0, c1⟩ := (HRD.out.below hbw (Nat.le_refl _)).at2 hlt
      have hxb := HBD.out _ (List.mem_of_getElem? hx)
      simp only at hxb
      by_cases hl1 : k + 1 < cs.length
      · have td : decide ((k : Int) + 1 < (cs.length : Int)) = true := by simp; omega
        obtain ⟨bk', o', y, u', e, _, _, hy, d0, _⟩ := (HRD.out.below hbw (Nat.le_refl _)).at2 hl1
        cases e
        have hyb := HBD.out _ (List.mem_of_getElem? hy)
        simp only at hyb
        have hnx := ar_next cs k _ _ hx hy
        simp only at hnx
        have har2 := HAT.out (k + 1 + 1)
        rw [HA.out, hnx] at har2
        have hxy : x < y := by
          have h := HSC.out
          rw [List.pairwise_iff_getElem] at h
          have := h k (k + 1) (by omega) hl1 (by omega)
          rw [(List.getElem?_eq_some_iff.1 hx).2, (List.getElem?_eq_some_iff.1 hy).2] at this
          exact this
        have HNX := Lib.hid hnx
        have hw1 : IntKind.i64.wrap ((k : Int) + 1) = (k : Int) + 1 := IntWalk.i64_in _ (by omega)
        have hw2 : ((k : Int) + 1).toNat = k + 1 := by omega
        have m0 : 0 ≤ u * (y - x) := Int.mul_nonneg (by omega) (by omega)
        have m1 : u * (y - x) ≤ 20000 * 2000000000000 := Int.mul_le_mul (by omega) (by omega) (by omega) (by omega)
        clear hx hy hnx hbw
        generalize ar (cs.take (k + 1)) = sk at *
        go_wp2
        go_quiet (fail)
        clear hw1 hw2
        go_wp2
        go_roundw
        case rel => exact ⟨k + 1, by omega, by go_num, by rw [HNX.out], by first | exact HBW.out | exact below_drewN HBW.out _⟩
        case measure => simp [intOf]; omega
      · have td : decide ((k : Int) + 1 < (cs.length : Int)) = false := by simp; omega
        have hu0 : u = 0 := by
          have := HLA.out (x, u) (by rw [List.getLast?_eq_getElem?, show cs.length - 1 = k by omega]; exact hx)
          exact this
        subst hu0
        have hall : cs.take (k + 1 + 1) = cs.take (k + 1) := by rw [List.take_of_length_le (by omega), List.take_of_length_le (by omega)]
        have HALL := Lib.hid hall
        clear hx hbw hall
        go_wp2
        go_roundw
        case rel => exact ⟨k + 1, by omega, by go_num, by rw [HALL.out], by first | exact HBW.out | exact below_drewN HBW.out _⟩
        case measure => simp [intOf]; omega
    · have hall : cs.take (k + 1) = cs := List.take_of_length_le (by omega)
      rw [hall] at har
      rw [hall]
      rw [HA.out]
      have HB2 := Lib.hid (below_next HB1.out hbw)
      clear hall hbw
      go_wp2
      go_loopw [6, 8] (fun s i wr => ∃ k : Nat, k ≤ n ∧ i = .int .i64 k ∧ s = .int .i64 (tk (l.take k)) ∧ Below w.heap.size w wr) (fun _ i _ => n - (intOf i).toNat)
      case atStart => exact ⟨0, Nat.zero_le _, rfl, rfl, HB2.out⟩
      case round =>
        obtain ⟨j, hj, rfl, rfl, hbq⟩ := hrel
        have HBQ := Lib.hid hbq
        have htj := HT.out j
        by_cases hjl : j < n
        · obtain ⟨bk, o, ⟨a, d, sA, sn, sc, lab, sf⟩, rfl, hbk, hs, c0, c1, c2, c3⟩ := (HR.out.below hbq (Nat.le_refl _)).at hjl
          simp only at c0 c1 c2 c3
          have hfi := HF.out _ (List.mem_of_getElem? hs)
          simp only at hfi
          have hst := tk_take l j _ hs
          simp only at hst
          have HST := Lib.hid hst
          simp only [List.length_take] at htj
          clear hs hst hbq c0 c2 c3
          generalize tk (l.take j) = sj at *
          go_wp2
          go_roundw
          case rel => exact ⟨j + 1, by omega, by go_num, by rw [HST.out], HBQ.out⟩
          case measure => simp [intOf]; omega
        · have hall : l.take j = l := List.take_of_length_le (by have := HL.out; omega)
          rw [hall]
          clear hall hbq
          go_wp2_with fail
          refine (counts_any _).mono ?_
          rintro e w3 ⟨rfl, hb3⟩
          go_wp2
          go_ret
          exact ⟨rfl, below_next HBQ.out hb3⟩

theorem law_busy (A : Option Addr) (n c : Nat) (l : List Smp) (w : World) (hr : SmpR w w.heap.size A n l) (hn : n ≤ maxLen) :
    Calls Try.prog 5 #[.slice A n c] w fun e w' => e = .returned (.bool true) ∧ Below w.heap.size w w' := by
  by_cases hc : codeS n l = 0
  · exact busy_main A n c l w hr hn hc
  · exact busy_bad A n c l w hr hn hc
end Go.Proofs.Ytgmbgclhljobaaa
