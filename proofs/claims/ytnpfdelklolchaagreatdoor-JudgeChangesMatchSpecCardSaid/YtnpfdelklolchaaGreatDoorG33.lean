import Derived.Test.YtnpfdelklolchaaGreatDoorG31
import Derived.Test.YtnpfdelklolchaaGreatDoorG23
import Derived.Test.YtnpfdelklolchaaGreatDoorG1
import Derived.StillTailTactics
import Derived.Test.YtnpfdelklolchaaGreatDoorG30
/- Lines through points: bounds, parts of the list. Plain. -/
namespace Go.Proofs.YtnpfdelklolchaaGreatDoor
open Go Go.RowKit Go.Proofs

def OkP (l : List (Int × Int)) : Prop := ∀ p ∈ l, (-1000000 ≤ p.1 ∧ p.1 ≤ 1000000) ∧ (-1000000 ≤ p.2 ∧ p.2 ≤ 1000000)
theorem OkP.take {l : List (Int × Int)} (h : OkP l) (i : Nat) : OkP (l.take i) := fun p hp => h p (List.mem_of_mem_take hp)
theorem OkP.drop {l : List (Int × Int)} (h : OkP l) (i : Nat) : OkP (l.drop i) := fun p hp => h p (List.mem_of_mem_drop hp)
/-- the bounds of all sums -/
structure BndP (l : List (Int × Int)) : Prop where
  n : l.length ≤ 300
  x1 : -300000000 ≤ pX l
  x2 : pX l ≤ 300000000
  y1 : -300000000 ≤ pY l
  y2 : pY l ≤ 300000000
  xx1 : -300000000000000 ≤ pXX l
  xx2 : pXX l ≤ 300000000000000
  xy1 : -300000000000000 ≤ pXY l
  xy2 : pXY l ≤ 300000000000000
  yy1 : -300000000000000 ≤ pYY l
  yy2 : pYY l ≤ 300000000000000
/-- what checkPoints tells -/
def okZ (l : List Int) : Bool := l.all fun x => decide (-1000000 ≤ x) && decide (x ≤ 1000000)
theorem okZ_mem {l : List Int} (h : okZ l = true) {x : Int} (hx : x ∈ l) : -1000000 ≤ x ∧ x ≤ 1000000 := by
  have := List.all_eq_true.1 h x hx
  simpa using this
end Go.Proofs.YtnpfdelklolchaaGreatDoor

/- What Changes returns: plain. -/
namespace Go.Proofs.YtnpfdelklolchaaGreatDoor
open Go

/-- the costs of the parts of a list, times the common number -/
abbrev chc (l : List Int) : Nat → Nat → Nat := cS l (cmn l.length)
/-- the penalty, times the common number -/
abbrev chE (l : List Int) (pen : Int) : Nat := cmn l.length * pen.toNat
/-- the best division -/
def chB (l : List Int) (pen : Int) : Nat × List Nat := bestL (chc l) (chE l pen) l.length
/-- its cost -/
def chQ (l : List Int) (pen : Int) : Rat := mkRat ((chB l pen).1 : Int) (cmn l.length)
/-- the error's number -/
def chC (l : List Int) (pen : Int) : Int :=
  if l.length = 0 then 13 else if 300 < l.length then 3 else if okZ l = true then (if 0 ≤ pen ∧ pen ≤ 1000000000000000 then rtC (chQ l pen) else 9) else 9
section
variable {l : List Int} {pen : Int}
theorem chB_min (h : 0 < l.length) : IsMin (chc l) (chE l pen) 0 l.length (chB l pen) := bestL_min _ _ l.length l.length (Nat.le_refl _) h
theorem chB_only (h : 0 < l.length) {x : Nat × List Nat} (hx : IsMin (chc l) (chE l pen) 0 l.length x) : x = chB l pen := IsMin.uniq _ _ hx (chB_min h)
theorem okZ_abs (h : okZ l = true) : ∀ z ∈ l, z.natAbs ≤ 1000000 := fun z hz => by have := okZ_mem h hz; omega
theorem chc_le (h : okZ l = true) (hl : l.length ≤ 300) {i j : Nat} (hj : j ≤ l.length) : chc l i j ≤ cmn l.length * 300000000000000 := by
  have h1 := cS_le (D := cmn l.length) (i := i) (okZ_abs h) hj
  exact Nat.le_trans h1 (Nat.mul_le_mul_left _ (by omega))
theorem chE_le (hp : pen ≤ 1000000000000000) : chE l pen ≤ cmn l.length * 1000000000000000 := Nat.mul_le_mul_left _ (by omega)
/-- what is added up stays below 8 words -/
theorem ch_small (hl : l.length ≤ 300) {x : Nat} (hx : x ≤ cmn l.length * 4000000000000000) : x < 18446744073709551616 ^ 8 := by
  refine Nat.lt_of_le_of_lt hx ?_
  rw [Nat.pow_succ]
  exact Nat.mul_lt_mul'' (cmn_small hl).1 (by omega)
theorem ch_small4 (hl : l.length ≤ 300) {x : Nat} (hx : x ≤ cmn l.length * 4000000000000000) : x < 10000 ^ 38 := by
  refine Nat.lt_of_le_of_lt hx ?_
  rw [show (38 : Nat) = 34 + 4 from rfl, Nat.pow_add]
  exact Nat.mul_lt_mul'' (cmn_small hl).2 (by omega)
theorem best_le (h : okZ l = true) (hl : l.length ≤ 300) {k : Nat} (hk : k ≤ l.length) : (bestL (chc l) (chE l pen) k).1 ≤ cmn l.length * 300000000000000 := by
  rcases Nat.eq_zero_or_pos k with rfl | h0
  · rw [bestL_zero]; exact Nat.zero_le _
  · exact Nat.le_trans (IsMin.le_whole _ _ (bestL_min _ _ k k (Nat.le_refl _) h0)) (chc_le h hl hk)
theorem min_le (h : okZ l = true) (hl : l.length ≤ 300) {k : Nat} {x : Nat × List Nat} (hx : IsMin (chc l) (chE l pen) k l.length x) : x.1 ≤ cmn l.length * 300000000000000 :=
  Nat.le_trans (IsMin.le_whole _ _ hx) (chc_le h hl (Nat.le_refl _))
theorem best_len {k : Nat} (hl : k ≤ 300) : (bestL (chc l) (chE l pen) k).2.length ≤ 300 := by
  rcases Nat.eq_zero_or_pos k with rfl | h0
  · rw [bestL_zero]; exact Nat.zero_le _
  · have := Val.length_le (bestL_min (chc l) (chE l pen) k k (Nat.le_refl _) h0).1 h0
    omega
theorem chC_empty (h : l.length = 0) : chC l pen = 13 := by unfold chC; rw [if_pos h]
theorem chC_long (h : 300 < l.length) : chC l pen = 3 := by unfold chC; rw [if_neg (by omega), if_pos h]
theorem chC_bad (h : 0 < l.length) (h2 : l.length ≤ 300) (h3 : ¬ okZ l = true) : chC l pen = 9 := by unfold chC; rw [if_neg (by omega), if_neg (by omega), if_neg h3]
theorem chC_rng (h : 0 < l.length) (h2 : l.length ≤ 300) (h3 : okZ l = true) (h4 : ¬ (0 ≤ pen ∧ pen ≤ 1000000000000000)) : chC l pen = 9 := by unfold chC; rw [if_neg (by omega), if_neg (by omega), if_pos h3, if_neg h4]
theorem chC_ok (h : 0 < l.length) (h2 : l.length ≤ 300) (h3 : okZ l = true) (h4 : 0 ≤ pen ∧ pen ≤ 1000000000000000) : chC l pen = rtC (chQ l pen) := by unfold chC; rw [if_neg (by omega), if_neg (by omega), if_pos h3, if_pos h4]
end
end Go.Proofs.YtnpfdelklolchaaGreatDoor

/- Lists of places compared: slices.Compare, the reference's before. -/
namespace Go.Proofs.YtnpfdelklolchaaGreatDoor
open Go Go.RowKit Go.Proofs

theorem PlR.at {w : World} {A : Option Addr} {c : Nat} {zs : List Nat} {i : Nat} (h : PlR w A c zs) (hi : i < zs.length) :
    ∃ b o x, A = some ⟨b, o, none⟩ ∧ zs[i]? = some x ∧ ∀ X, Below w.heap.size w X → X.cell? ⟨b, o + i, none⟩ = some (.int .i64 (x : Int)) := by
  obtain ⟨b, o, u, e, hb, hu, hc⟩ := h.1.at1 hi
  obtain ⟨x, hx⟩ : ∃ x, zs[i]? = some x := ⟨zs[i], List.getElem?_eq_getElem hi⟩
  unfold nInts at hu
  rw [List.getElem?_map, hx] at hu
  obtain rfl := Option.some.inj hu
  refine ⟨b, o, x, e, hx, fun X hX => ?_⟩
  rw [← hc]
  exact World.cell?_of_block (hX.block b hb)
theorem drop_at {zs : List Nat} {i x : Nat} (h : zs[i]? = some x) : zs.drop i = x :: zs.drop (i + 1) := by
  have hlt := (List.getElem?_eq_some_iff.1 h).1
  rw [List.drop_eq_getElem_cons hlt]
  congr 1
  exact (List.getElem?_eq_some_iff.1 h).2
theorem isNaNI_any (x : Int) (w : World) : Calls Tryz.prog 111 #[.int .i64 x] w fun e w' => e = .returned (.bool false) ∧ Below w.heap.size w w' := by
  go_enter Tryz.func111, Tryz.ntmps111
  go_wp2
  go_ret
  exact ⟨rfl, Below.refl _ _⟩
/-- as cmp.Compare tells of two numbers -/
def cmpI (x y : Nat) : Int := if x < y then -1 else if y < x then 1 else 0
theorem cmpI_lt {x y : Nat} (h : x < y) : cmpI x y = -1 := if_pos h
theorem cmpI_gt {x y : Nat} (h : ¬ x < y) (h2 : y < x) : cmpI x y = 1 := by rw [cmpI, if_neg h, if_pos h2]
theorem cmpI_eq {x y : Nat} (h : ¬ x < y) (h2 : ¬ y < x) : cmpI x y = 0 := by rw [cmpI, if_neg h, if_neg h2]
theorem cmpInt_any (x y : Nat) (w : World) : Calls Tryz.prog 99 #[.int .i64 (x : Int), .int .i64 (y : Int)] w fun e w' => e = .returned (.int .i64 (cmpI x y)) ∧ Below w.heap.size w w' := by
  obtain ⟨v, hv⟩ : ∃ v, v = cmpI x y := ⟨_, rfl⟩
  rw [← hv]
  have HV := Lib.hid hv
  clear hv
  go_enter Tryz.func99, Tryz.ntmps99
  go_wp2_with fail
  (with_reducible refine (isNaNI_any (x : Int) w).mono ?_)
  rintro e w1 ⟨rfl, hb1⟩
  have HB1 := Lib.hid hb1
  clear hb1
  go_wp2_with fail
  (with_reducible refine (isNaNI_any (y : Int) w1).mono ?_)
  rintro e w2 ⟨rfl, hb2⟩
  have HB := Lib.hid (below_next HB1.out hb2)
  clear hb2 HB1
  by_cases h1 : x < y
  · have h1z : (x : Int) < (y : Int) := by omega
    have HE := Lib.hid (show v = -1 by rw [HV.out, cmpI_lt h1])
    go_wp2
    go_ret
    exact ⟨by rw [HE.out]; first | rfl | simp, HB.out⟩
  · have h1z : ¬ (x : Int) < (y : Int) := by omega
    by_cases h2 : y < x
    · have h2z : (y : Int) < (x : Int) := by omega
      have HE := Lib.hid (show v = 1 by rw [HV.out, cmpI_gt h1 h2])
      go_wp2
      go_ret
      exact ⟨by rw [HE.out]; first | rfl | simp, HB.out⟩
    · have h2z : ¬ (y : Int) < (x : Int) := by omega
      have HE := Lib.hid (show v = 0 by rw [HV.out, cmpI_eq h1 h2])
      go_wp2
      go_ret
      exact ⟨by rw [HE.out]; first | rfl | simp, HB.out⟩
set_option maxHeartbeats 8000000 in
set_option maxRecDepth 100000 in
theorem cmpL_any (A1 A2 : Option Addr) (c1 c2 : Nat) (z1 z2 : List Nat) (w : World) (h1 : PlR w A1 c1 z1) (h2 : PlR w A2 c2 z2) (hl1 : z1.length ≤ 1000000) (hl2 : z2.length ≤ 1000000) :
    Calls Tryz.prog 79 #[.slice A1 z1.length c1, .slice A2 z2.length c2] w fun e w' => e = .returned (.int .i64 (cmpL z1 z2)) ∧ Below w.heap.size w w' := by
  have H1 := Lib.hid h1
  have H2 := Lib.hid h2
  clear h1 h2
  go_enter Tryz.func79, Tryz.ntmps79
  go_wp2
  go_loopw [11] (fun iv wr => ∃ i : Nat, iv = .int .i64 (i : Int) ∧ i ≤ z1.length ∧ i ≤ z2.length ∧ cmpL (z1.drop i) (z2.drop i) = cmpL z1 z2 ∧ Below w.heap.size w wr) (fun iv _ => z1.length - (intOf iv).toNat)
  case atStart => exact ⟨0, rfl, Nat.zero_le _, Nat.zero_le _, rfl, Below.refl _ _⟩
  case round =>
    obtain ⟨i, rfl, hi1, hi2, hc, hb⟩ := hrel
    have HB := Lib.hid hb
    have HC := Lib.hid hc
    by_cases hlt : i < z1.length
    · obtain ⟨b1, o1, x, rfl, hx, hk1⟩ := H1.out.at hlt
      have k1 := hk1 wr hb
      by_cases hlt2 : i < z2.length
      · obtain ⟨b2, o2, y, rfl, hy, hk2⟩ := H2.out.at hlt2
        have k2 := hk2 wr hb
        rw [drop_at hx, drop_at hy, cmpL] at hc
        have HC2 := Lib.hid hc
        clear hk1 hk2 hx hy hb hc HC
        go_wp2_with fail
        clear k1 k2
        (with_reducible refine (cmpInt_any x y wr).mono ?_)
        rintro e w2 ⟨rfl, hb2⟩
        have HB2 := Lib.hid (below_next HB.out hb2)
        clear hb2 HB
        by_cases g1 : x < y
        · have hr := HC2.out
          rw [if_pos g1] at hr
          rw [cmpI_lt g1]
          have HR := Lib.hid hr
          clear hr HC2
          go_wp2
          go_ret
          exact ⟨by rw [← HR.out]; first | rfl | simp, HB2.out⟩
        · by_cases g2 : y < x
          · have hr := HC2.out
            rw [if_neg g1, if_pos g2] at hr
            rw [cmpI_gt g1 g2]
            have HR := Lib.hid hr
            clear hr HC2
            go_wp2
            go_ret
            exact ⟨by rw [← HR.out]; first | rfl | simp, HB2.out⟩
          · have hr := HC2.out
            rw [if_neg g1, if_neg g2] at hr
            rw [cmpI_eq g1 g2]
            have HR := Lib.hid hr
            clear hr HC2
            go_wp2
            go_roundw
            case rel => exact ⟨i + 1, by go_num, by omega, by omega, HR.out, HB2.out⟩
            case measure => simp [intOf]; omega
      · rw [drop_at hx, List.drop_of_length_le (show z2.length ≤ i by omega), cmpL] at hc
        have HC2 := Lib.hid hc
        have hge : (z2.length : Int) ≤ (i : Int) := by omega
        have hge2 : ¬ (i : Int) < (z2.length : Int) := by omega
        clear hk1 hx hb hc HC
        go_wp2
        go_ret
        exact ⟨by rw [← HC2.out]; first | rfl | simp, HB.out⟩
    · by_cases hlt2 : z1.length < z2.length
      · have hlz : (z1.length : Int) < (z2.length : Int) := by omega
        have hr : cmpL z1 z2 = -1 := by
          rw [← hc, List.drop_of_length_le (show z1.length ≤ i by omega)]
          have : 0 < (z2.drop i).length := by rw [List.length_drop]; omega
          cases h : z2.drop i with
          | nil => rw [h] at this; simp at this
          | cons a l => rfl
        have HR := Lib.hid hr
        clear hr hc HC hb
        go_wp2
        go_ret
        exact ⟨by rw [HR.out]; first | rfl | simp, HB.out⟩
      · have hlz : ¬ (z1.length : Int) < (z2.length : Int) := by omega
        have hr : cmpL z1 z2 = 0 := by
          rw [← hc, List.drop_of_length_le (show z1.length ≤ i by omega), List.drop_of_length_le (show z2.length ≤ i by omega)]
          rfl
        have HR := Lib.hid hr
        clear hr hc HC hb
        go_wp2
        go_ret
        exact ⟨by rw [HR.out]; first | rfl | simp, HB.out⟩
set_option maxHeartbeats 8000000 in
set_option maxRecDepth 100000 in
theorem before_any (A1 A2 : Option Addr) (c1 c2 : Nat) (z1 z2 : List Nat) (w : World) (h1 : PlR w A1 c1 z1) (h2 : PlR w A2 c2 z2) (hl1 : z1.length ≤ 1000000) (hl2 : z2.length ≤ 1000000) :
    Calls Tryz.prog 51 #[.slice A1 z1.length c1, .slice A2 z2.length c2] w fun e w' => e = .returned (.bool (befL z1 z2)) ∧ Below w.heap.size w w' := by
  have H1 := Lib.hid h1
  have H2 := Lib.hid h2
  clear h1 h2
  go_enter Tryz.func51, Tryz.ntmps51
  go_wp2
  go_loopw [5] (fun iv wr => ∃ i : Nat, iv = .int .i64 (i : Int) ∧ i ≤ z1.length ∧ i ≤ z2.length ∧ befL (z1.drop i) (z2.drop i) = befL z1 z2 ∧ Below w.heap.size w wr) (fun iv _ => z1.length - (intOf iv).toNat)
  case atStart => exact ⟨0, rfl, Nat.zero_le _, Nat.zero_le _, rfl, Below.refl _ _⟩
  case round =>
    obtain ⟨i, rfl, hi1, hi2, hc, hb⟩ := hrel
    have HB := Lib.hid hb
    by_cases hlt : i < z1.length
    · have hltz : (i : Int) < (z1.length : Int) := by omega
      obtain ⟨b1, o1, x, rfl, hx, hk1⟩ := H1.out.at hlt
      by_cases hlt2 : i < z2.length
      · have hlt2z : (i : Int) < (z2.length : Int) := by omega
        obtain ⟨b2, o2, y, rfl, hy, hk2⟩ := H2.out.at hlt2
        have k1 := hk1 wr hb
        have k2 := hk2 wr hb
        have k3 := hk1 wr.drew hb.drew
        have k4 := hk2 wr.drew hb.drew
        have k5 := hk1 wr.drew.drew hb.drew.drew
        have k6 := hk2 wr.drew.drew hb.drew.drew
        rw [drop_at hx, drop_at hy, befL] at hc
        have HC2 := Lib.hid hc
        clear hk1 hk2 hx hy hb hc
        by_cases g : x = y
        · have hr := HC2.out
          rw [if_neg (by omega)] at hr
          have HR := Lib.hid hr
          have gz : (x : Int) = (y : Int) := by omega
          clear hr HC2
          go_wp2
          refine wp_region_still_tail 8 (by kernel_rfl) (by kernel_rfl) ?_
          simp only [List.take_succ_cons, List.take_zero, List.drop_succ_cons, List.drop_zero]
          repeat still_step
          refine wpStill_nil ?_
          change wpList _ _ _ _ _ wr.drew
          go_wp2
          go_roundw
          case rel => exact ⟨i + 1, by go_num, by omega, by omega, HR.out, HB.out.drew⟩
          case measure => simp [intOf]; omega
        · have hr := HC2.out
          rw [if_pos g] at hr
          have HR := Lib.hid hr
          have gz : ¬ (x : Int) = (y : Int) := by omega
          have hdz : decide ((x : Int) < (y : Int)) = decide (x < y) := by
            rw [decide_eq_decide]; omega
          clear hr HC2
          go_wp2
          refine wp_region_still_tail 8 (by kernel_rfl) (by kernel_rfl) ?_
          simp only [List.take_succ_cons, List.take_zero, List.drop_succ_cons, List.drop_zero]
          repeat still_step
          refine wpStill_nil ?_
          change wpList _ _ _ _ _ wr.drew
          obtain ⟨wq, hwq⟩ : ∃ W : World, W = wr.drew := ⟨_, rfl⟩
          rw [← hwq] at k5 k6 ⊢
          have HWQ := Lib.hid (show Below w.heap.size w wq by rw [hwq]; exact HB.out.drew)
          clear hwq k3 k4 HB
          go_wp2
          refine wp_region_still_tail 9 (by kernel_rfl) (by kernel_rfl) ?_
          simp only [List.take_succ_cons, List.take_zero, List.drop_succ_cons, List.drop_zero]
          repeat still_step
          refine wpStill_nil ?_
          change wpList _ _ _ _ _ wq.drew
          go_wp2
          go_ret
          exact ⟨by rw [← HR.out]; first | rfl | simp, HWQ.out.drew⟩
      · have hlt2z : ¬ (i : Int) < (z2.length : Int) := by omega
        have hr : befL z1 z2 = decide (z1.length < z2.length) := by
          rw [← hc, drop_at hx, List.drop_of_length_le (show z2.length ≤ i by omega), befL]
          simp; omega
        have HR := Lib.hid hr
        have hdz : decide ((z1.length : Int) < (z2.length : Int)) = decide (z1.length < z2.length) := by
          rw [decide_eq_decide]; omega
        clear hk1 hx hb hc hr
        go_wp2
        go_ret
        exact ⟨by rw [HR.out]; first | rfl | simp, HB.out⟩
    · have hltz : ¬ (i : Int) < (z1.length : Int) := by omega
      have hr : befL z1 z2 = decide (z1.length < z2.length) := by
        rw [← hc, List.drop_of_length_le (show z1.length ≤ i by omega), befL, List.length_drop, decide_eq_decide]
        omega
      have HR := Lib.hid hr
      clear hb hc hr
      go_wp2
      go_ret
      exact ⟨by rw [HR.out]; first | rfl | simp, HB.out⟩
end Go.Proofs.YtnpfdelklolchaaGreatDoor
