/- MeasureQuantileBrackets: the exact value of the rank lies within the limits that Quantile tells, which differ by at most the lower one divided by 2^(bits - 1): for every input, no condition. -/
import Derived.Test.YtgmbgclhljobaaaCounts
import Derived.Test.YtgmbgclhljobaaaQntAny
namespace Go.Proofs.Ytgmbgclhljobaaa
open Go Go.RowKit Go.Proofs Go.Maps

/-- the law's way on which the values cannot be counted -/
theorem codeH_none : codeH 0 [] = 9 := by decide +kernel

set_option maxHeartbeats 2000000 in
set_option maxRecDepth 100000 in
theorem brackets_bad (b : Int) (A : Option Addr) (n c : Nat) (zs : List Int) (num den : Int) (w : World) (hr : Rd w 0 w.heap.size 1 A n (ints zs)) (hc : codeV b n zs ≠ 0) :
    Calls Try.prog 4 #[.int .i64 b, .slice A n c, .int .i64 num, .int .i64 den] w fun e w' => e = .returned (.bool true) ∧ Below w.heap.size w w' := by
  have HO := Lib.hid (Of_any' b A n c zs w hr)
  obtain ⟨cd, hcd⟩ : ∃ cd, cd = codeV b n zs := ⟨_, rfl⟩
  rw [← hcd] at hc HO
  clear hcd hr
  have tc : (cd == 0) = false := by simpa using hc
  have tc' : (cd != 0) = true := by simpa using hc
  go_enter Try.func4, Try.ntmps4
  go_wp2_with fail
  refine HO.out.mono ?_
  rintro e w1 ⟨v, rfl, _, h2, hb1⟩
  obtain rfl := h2 hc
  clear h2
  have HB1 := Lib.hid hb1
  clear hb1
  go_wp2_with fail
  refine (Quantile_any 0 none 0 [] num den _ Rd.nil (by simp) (by rw [codeH_none]; intro h; cases h)).mono ?_
  rintro e w2 ⟨lo, hi, rfl, _, _, hb2⟩
  have HB2 := Lib.hid (below_next HB1.out (below_next ((Below.refl _ w1).alloc (Nat.le_refl _) _) hb2))
  clear hb2
  go_wp2_with fail
  refine (counts_any _).mono ?_
  rintro e w3 ⟨rfl, hb3⟩
  go_wp2
  go_ret
  exact ⟨rfl, below_next HB2.out hb3⟩

set_option maxHeartbeats 2000000 in
set_option maxRecDepth 100000 in
/-- Quantile tells an error, or there are many values -/
theorem brackets_err (b : Int) (A : Option Addr) (n c : Nat) (zs : List Int) (num den : Int) (w : World) (hr : Rd w 0 w.heap.size 1 A n (ints zs)) (hc : codeV b n zs = 0)
    (hq : ∀ cs, IsHist (cntB b zs) cs → codeQ b cs num den = 0 → 300 < n) :
    Calls Try.prog 4 #[.int .i64 b, .slice A n c, .int .i64 num, .int .i64 den] w fun e w' => e = .returned (.bool true) ∧ Below w.heap.size w w' := by
  have hl : zs.length = n := by have := hr.1; rw [ints_length] at this; omega
  obtain ⟨hb2, hb8, hn, hz⟩ := codeV_zero hc
  have HO := Lib.hid (Of_any b A n c zs w hr (by omega))
  rw [hc] at HO
  have HQ := Lib.hid hq
  have HZ := Lib.hid hz
  have HL := Lib.hid hl
  clear hc hq hz hl hr
  go_enter Try.func4, Try.ntmps4
  go_wp2_with fail
  refine HO.out.mono ?_
  rintro e w1 ⟨v, rfl, h1, _, hb1⟩
  obtain ⟨cs, hh, ⟨A1, c1, rfl, _, _, _, hrd⟩, _⟩ := h1 trivial
  clear h1
  have hg := good_of_values hh hb2 hb8 HZ.out (by rw [HL.out]; omega)
  have ht := tot_all hh
  have h300 := HQ.out cs hh
  have HG := Lib.hid hg
  have HB1 := Lib.hid hb1
  have HRD := Lib.hid hrd
  have htl : tot cs ≤ 1000000 := by rw [ht, HL.out]; omega
  have hlen := hg.2.2.1
  clear hb1 hh hg ht hrd
  go_wp2_with fail
  refine (Quantile_any b A1 c1 cs num den _ (((HRD.out.more (Nat.zero_le _) (Nat.le_refl _)).alloc (Nat.le_refl _) _).more (Nat.le_refl _) (by simp)) (by omega) (fun _ => htl)).mono ?_
  rintro e w2 ⟨lo, hi, rfl, _, _, hb2⟩
  obtain ⟨cq, hcq⟩ : ∃ cq, cq = codeQ b cs num den := ⟨_, rfl⟩
  rw [← hcq] at h300 ⊢
  clear hcq
  have HB2 := Lib.hid (below_next HB1.out (below_next ((Below.refl _ w1).alloc (Nat.le_refl _) _) hb2))
  clear hb2
  by_cases hcq : cq = 0
  · have h3 := h300 hcq
    subst hcq
    clear h300
    go_wp2_with fail
    refine (counts_any _).mono ?_
    rintro e w3 ⟨rfl, hb3⟩
    go_wp2
    go_ret
    exact ⟨rfl, below_next HB2.out hb3⟩
  · have tc : (cq == 0) = false := by simpa using hcq
    have tc' : (cq != 0) = true := by simpa using hcq
    clear h300
    go_wp2_with fail
    refine (counts_any _).mono ?_
    rintro e w3 ⟨rfl, hb3⟩
    go_wp2
    go_ret
    exact ⟨rfl, below_next HB2.out hb3⟩

/-- what the law asks of the limits -/
def Brk (zs : List Int) (num den lo hi : Int) : Prop := ∀ v ∈ zs, zs.length * num ≤ zs.countP (fun u => decide (u ≤ v)) * den → (zs.countP (fun u => decide (u < v)) = 0 ∨ (zs.countP (fun u => decide (u < v)) : Int) * den < zs.length * num) → lo ≤ v ∧ v ≤ hi
theorem brk_of {b : Int} {zs : List Int} {cs : List (Int × Int)} {num den lo hi : Int} (hh : IsHist (cntB b zs) cs) (hb : 2 ≤ b) (hb' : b ≤ 8) (hz : ∀ v ∈ zs, fineV v = true) (hg : Good b cs) (hq : badQ num den = false) (h : AtRank b cs (rnk (tot cs) num den) lo hi) :
    Brk zs num den lo hi ∧ 0 ≤ lo ∧ lo ≤ hi ∧ hi ≤ 1125899906842623 ∧ hi - lo ≤ lo / hB b := by
  obtain ⟨i, x, n, hx, h1, h2, rfl, rfl⟩ := h
  have hX := (hg.2.2.2.1 (x, n) (List.mem_of_getElem? hx)).1
  have hlim := lim_bd b x hb hb' hX.1 hX.2
  refine ⟨fun v hv hn hl => ?_, hlim.1, hlim.2.1, hlim.2.2, width b x hb hb' hX.1 hX.2⟩
  simp [badQ] at hq
  rw [tot_all hh] at h1 h2
  have hp : 0 < zs.countP (fun u => decide (u ≤ v)) := List.countP_pos_iff.2 ⟨v, hv, by simp⟩
  refine rank_within hh hb hb' hz hx h1 h2 hv (rnk_le (by omega) (by omega) hn) (lt_rnk (by omega) ?_)
  rcases hl with h | h
  · left; omega
  · right; exact h
/-- the main way -/
theorem count_snoc (p : Int → Bool) (zs : List Int) (j : Nat) (u : Int) (h : zs[j]? = some u) : (zs.take (j + 1)).countP p = (zs.take j).countP p + if p u = true then 1 else 0 := by
  rw [List.take_add_one, h]; simp [List.countP_append, List.countP_cons]
set_option maxHeartbeats 4000000 in
set_option maxRecDepth 100000 in
theorem brackets_main (b : Int) (A : Option Addr) (n c : Nat) (zs : List Int) (num den : Int) (w : World) (hr : Rd w 0 w.heap.size 1 A n (ints zs)) (hc : codeV b n zs = 0) (hn : n ≤ 300)
    (hq : ∀ cs, IsHist (cntB b zs) cs → codeQ b cs num den = 0) :
    Calls Try.prog 4 #[.int .i64 b, .slice A n c, .int .i64 num, .int .i64 den] w fun e w' => e = .returned (.bool true) ∧ Below w.heap.size w w' := by
  have hl : zs.length = n := by have := hr.1; rw [ints_length] at this; omega
  obtain ⟨hb2, hb8, _, hz⟩ := codeV_zero hc
  have HO := Lib.hid (Of_any b A n c zs w hr (by omega))
  rw [hc] at HO
  have HQ := Lib.hid hq
  have HZ := Lib.hid hz
  have HL := Lib.hid hl
  have HR := Lib.hid hr
  clear hc hq hz hl hr
  go_enter Try.func4, Try.ntmps4
  go_wp2_with fail
  refine HO.out.mono ?_
  rintro e w1 ⟨v, rfl, h1, _, hb1⟩
  obtain ⟨cs, hh, ⟨A1, c1, rfl, _, _, _, hrd⟩, _⟩ := h1 trivial
  clear h1
  have hg := good_of_values hh hb2 hb8 HZ.out (by rw [HL.out]; omega)
  have ht := tot_all hh
  have HQ0 := Lib.hid (HQ.out cs hh)
  have HG := Lib.hid hg
  have HB1 := Lib.hid hb1
  have HRD := Lib.hid hrd
  have HH := Lib.hid hh
  have htl : tot cs ≤ 1000000 := by rw [ht, HL.out]; omega
  have hlen := hg.2.2.1
  clear hb1 hh hg ht hrd
  go_wp2_with fail
  refine (Quantile_any b A1 c1 cs num den _ (((HRD.out.more (Nat.zero_le _) (Nat.le_refl _)).alloc (Nat.le_refl _) _).more (Nat.le_refl _) (by simp)) (by omega) (fun _ => htl)).mono ?_
  rintro e w2 ⟨lo, hi, rfl, hrk, _, hb2'⟩
  rw [HQ0.out]
  have hbq : badQ num den = false := by
    have h := HQ0.out
    unfold codeQ at h
    rw [if_pos HG.out.code] at h
    cases hx : badQ num den with
    | false => rfl
    | true => rw [hx] at h; simp at h
  obtain ⟨hbrk, hlo, hlh, hhi, hwd⟩ := brk_of HH.out hb2 hb8 HZ.out HG.out hbq (hrk HQ0.out)
  obtain ⟨q1, q2, q3, q4⟩ : 0 ≤ num ∧ num ≤ den ∧ 1 ≤ den ∧ den ≤ 1000000 := by simp [badQ] at hbq; omega
  have HBRK := Lib.hid hbrk
  have HB2 := Lib.hid (below_next HB1.out (below_next ((Below.refl _ w1).alloc (Nat.le_refl _) _) hb2'))
  have HWD := Lib.hid hwd
  clear hb2' hrk hbq hbrk hwd
  have hnum : (n : Int) * num ≤ 300 * 1000000 := Int.mul_le_mul (by omega) (by omega) q1 (by omega)
  have hnum0 : 0 ≤ (n : Int) * num := Int.mul_nonneg (by omega) q1
  go_wp2
  go_loopw [14, 15, 16, 17, 18] (fun i _ _ _ _ wr => ∃ k : Nat, k ≤ n ∧ i = .int .i64 k ∧ Below w.heap.size w wr) (fun i _ _ _ _ _ => n - (intOf i).toNat)
  case atStart => exact ⟨0, Nat.zero_le _, rfl, HB2.out⟩
  case round =>
    obtain ⟨i, hi', rfl, hbw⟩ := hrel
    obtain ⟨wo, hwo⟩ : ∃ wo : World, wo = wr := ⟨_, rfl⟩
    subst hwo
    have HBW := Lib.hid hbw
    by_cases hlt : i < n
    · obtain ⟨bk, o, uu, rfl, hbk, hu, cell⟩ := (HR.out.below hbw (Nat.le_refl _)).at1 hlt
      obtain ⟨v, hv, rfl⟩ := ints_get hu
      have HV := Lib.hid hv
      clear hu hv hbw
      go_wp2
      go_loopw [15, 16, 17] (fun a l k wr => ∃ j : Nat, j ≤ n ∧ k = .int .i64 j ∧ a = .int .i64 ((zs.take j).countP (fun u => decide (u ≤ v)) : Nat) ∧ l = .int .i64 ((zs.take j).countP (fun u => decide (u < v)) : Nat) ∧ Below w.heap.size w wr) (fun _ _ k _ => n - (intOf k).toNat)
      case atStart => exact ⟨0, Nat.zero_le _, rfl, rfl, rfl, HBW.out⟩
      case round =>
        obtain ⟨j, hj, rfl, rfl, rfl, hbo⟩ := hrel
        have HBO := Lib.hid hbo
        have cell' : wr.cell? ⟨bk, o + i, none⟩ = some (.int .i64 v) := by
          have := (HR.out.below hbo (Nat.le_refl _)).2 (by omega)
          obtain ⟨b', o', e, _, _, hcc⟩ := this
          cases e
          refine hcc i _ ?_
          unfold ints; rw [List.getElem?_map, HV.out]; rfl
        have hc1 := List.countP_le_length (p := fun u : Int => decide (u ≤ v)) (l := zs.take j)
        have hc2 := List.countP_le_length (p := fun u : Int => decide (u < v)) (l := zs.take j)
        simp only [List.length_take] at hc1 hc2
        by_cases hjl : j < n
        · obtain ⟨bk', o', uu, e, hbk', hu, cellj⟩ := (HR.out.below hbo (Nat.le_refl _)).at1 hjl
          cases e
          obtain ⟨u, hu', rfl⟩ := ints_get hu
          have HC1 := Lib.hid (count_snoc (fun u => decide (u ≤ v)) zs j u hu')
          have HC2 := Lib.hid (count_snoc (fun u => decide (u < v)) zs j u hu')
          clear hu hu' hbo
          generalize (zs.take j).countP (fun u => decide (u ≤ v)) = nt at *
          generalize (zs.take j).countP (fun u => decide (u < v)) = ls at *
          by_cases q1 : u < v
          · have u1 : decide (u ≤ v) = true := by simp; omega
            have u2 : decide (u < v) = true := by simpa using q1
            go_wp2
            go_quiet (fail)
            go_wp2
            go_quiet (fail)
            go_wp2
            go_roundw
            case rel => exact ⟨j + 1, by omega, by go_num, by rw [HC1.out]; simp [*], by rw [HC2.out]; simp [*], by first | exact below_drewN HBO.out _ | exact (below_drewN HBO.out _).drew⟩
            case measure => simp [intOf]; omega
          · have u2 : decide (u < v) = false := by simpa using q1
            by_cases q2 : u ≤ v
            · have u1 : decide (u ≤ v) = true := by simpa using q2
              go_wp2
              go_quiet (fail)
              go_wp2
              go_quiet (fail)
              go_wp2
              go_roundw
              case rel => exact ⟨j + 1, by omega, by go_num, by rw [HC1.out]; simp [*], by rw [HC2.out]; simp [*], by first | exact below_drewN HBO.out _ | exact (below_drewN HBO.out _).drew⟩
              case measure => simp [intOf]; omega
            · have u1 : decide (u ≤ v) = false := by simpa using q2
              go_wp2
              go_quiet (fail)
              go_wp2
              go_quiet (fail)
              go_wp2
              go_roundw
              case rel => exact ⟨j + 1, by omega, by go_num, by rw [HC1.out]; simp [*], by rw [HC2.out]; simp [*], by first | exact below_drewN HBO.out _ | exact (below_drewN HBO.out _).drew⟩
              case measure => simp [intOf]; omega
        · obtain rfl : j = n := by omega
          have e1 : zs.take j = zs := List.take_of_length_le (by have := HL.out; omega)
          rw [e1] at hc1 hc2 ⊢
          have HBV := Lib.hid (HBRK.out v (List.mem_of_getElem? HV.out))
          rw [HL.out] at HBV
          clear e1 hbo
          generalize zs.countP (fun u => decide (u ≤ v)) = nt at *
          generalize zs.countP (fun u => decide (u < v)) = ls at *
          have m1 : (nt : Int) * den ≤ 300 * 1000000 := Int.mul_le_mul (by omega) (by omega) (by omega) (by omega)
          have m10 : 0 ≤ (nt : Int) * den := Int.mul_nonneg (by omega) (by omega)
          have m2 : (ls : Int) * den ≤ 300 * 1000000 := Int.mul_le_mul (by omega) (by omega) (by omega) (by omega)
          have m20 : 0 ≤ (ls : Int) * den := Int.mul_nonneg (by omega) (by omega)
          by_cases d1 : (j : Int) * num ≤ (nt : Int) * den
          · have x1 : decide ((j : Int) * num ≤ (nt : Int) * den) = true := by simpa using d1
            by_cases d2 : ls = 0
            · have x2 : ((ls : Int) == 0) = true := by simp [d2]
              obtain ⟨y1, y2⟩ := HBV.out d1 (.inl d2)
              have z1 : decide (v < lo) = false := by simpa using y1
              have z2 : decide (hi < v) = false := by simpa using y2
              have ls0 : ls ≤ 0 := by omega
              clear d2
              go_wp2
              go_roundw
              case rel => exact ⟨i + 1, by omega, by go_num, HBO.out⟩
              case measure => simp [intOf]; omega
            · have x2 : ((ls : Int) == 0) = false := by simp; omega
              by_cases d3 : (ls : Int) * den < (j : Int) * num
              · have x3 : decide ((ls : Int) * den < (j : Int) * num) = true := by simpa using d3
                obtain ⟨y1, y2⟩ := HBV.out d1 (.inr d3)
                have z1 : decide (v < lo) = false := by simpa using y1
                have z2 : decide (hi < v) = false := by simpa using y2
                go_wp2
                go_roundw
                case rel => exact ⟨i + 1, by omega, by go_num, HBO.out⟩
                case measure => simp [intOf]; omega
              · have x3 : decide ((ls : Int) * den < (j : Int) * num) = false := by simpa using d3
                go_wp2
                go_roundw
                case rel => exact ⟨i + 1, by omega, by go_num, HBO.out⟩
                case measure => simp [intOf]; omega
          · have x1 : decide ((j : Int) * num ≤ (nt : Int) * den) = false := by simpa using d1
            go_wp2
            go_roundw
            case rel => exact ⟨i + 1, by omega, by go_num, HBO.out⟩
            case measure => simp [intOf]; omega
    · have td : decide (hi - lo ≤ lo / 2 ^ (b.toNat - 1)) = true := decide_eq_true (by have := HWD.out; unfold hB at this; exact this)
      go_wp2_with fail
      refine (counts_any _).mono ?_
      rintro e w3 ⟨rfl, hb3⟩
      go_wp2
      go_ret
      exact ⟨rfl, below_next HBW.out hb3⟩

theorem law_brackets (b : Int) (A : Option Addr) (n c : Nat) (zs : List Int) (num den : Int) (w : World) (hr : Rd w 0 w.heap.size 1 A n (ints zs)) :
    Calls Try.prog 4 #[.int .i64 b, .slice A n c, .int .i64 num, .int .i64 den] w fun e w' => e = .returned (.bool true) ∧ Below w.heap.size w w' := by
  by_cases hc : codeV b n zs = 0
  · by_cases hx : ∃ cs, IsHist (cntB b zs) cs ∧ codeQ b cs num den = 0
    · obtain ⟨cs, h1, h2⟩ := hx
      by_cases h3 : n ≤ 300
      · exact brackets_main b A n c zs num den w hr hc h3 (fun cs' h' => by rw [IsHist.uniq h' h1]; exact h2)
      · exact brackets_err b A n c zs num den w hr hc (fun _ _ _ => by omega)
    · exact brackets_err b A n c zs num den w hr hc (fun cs h1 h2 => absurd ⟨cs, h1, h2⟩ hx)
  · exact brackets_bad b A n c zs num den w hr hc
end Go.Proofs.Ytgmbgclhljobaaa
