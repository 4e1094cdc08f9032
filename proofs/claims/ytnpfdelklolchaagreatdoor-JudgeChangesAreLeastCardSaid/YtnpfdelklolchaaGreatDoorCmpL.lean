/- Lists of places compared: slices.Compare, the reference's before. -/
import Derived.StillTailTactics
import Derived.Test.YtnpfdelklolchaaGreatDoorG36
import Derived.Test.YtnpfdelklolchaaGreatDoorRowD
namespace Go.Proofs.YtnpfdelklolchaaGreatDoor
open Go Go.RowKit Go.Proofs

theorem PlR.at {w : World} {A : Option Addr} {c : Nat} {zs : List Nat} {i : Nat} (h : PlR w A c zs) (hi : i < zs.length) :
    ∃ b o x, A = some ⟨b, o, none⟩ ∧ zs[i]? = some x ∧ ∀ X, Below w.heap.size w X → X.cell? ⟨b, o + i, none⟩ = some (.int .i64 (x : Int)) := by
  obtain ⟨b, o, u, e, hb, hu, hc⟩ := h.1.at1 hi
  obtain ⟨x, hx⟩ : ∃ x, zs[i]? = some x := ⟨zs[i], List.getElem?_eq_getElem hi⟩
  unfold nInts at hu
  rw [List.getElem?_map, hx] at hu
  obtain rfl := Option.some.inj hu
  refine ⟨b, o, x, e, hx, fun X hX => ?_⟩
  rw [← hc]
  exact World.cell?_of_block (hX.block b hb)
theorem drop_at {zs : List Nat} {i x : Nat} (h : zs[i]? = some x) : zs.drop i = x :: zs.drop (i + 1) := by
  have hlt := (List.getElem?_eq_some_iff.1 h).1
  rw [List.drop_eq_getElem_cons hlt]
  congr 1
  exact (List.getElem?_eq_some_iff.1 h).2
theorem isNaNI_any (x : Int) (w : World) : Calls Tryz.prog 111 #[.int .i64 x] w fun e w' => e = .returned (.bool false) ∧ Below w.heap.size w w' := by
  go_enter Tryz.func111, Tryz.ntmps111
  go_wp2
  go_ret
  exact ⟨rfl, Below.refl _ _⟩
/-- as cmp.Compare tells of two numbers -/
def cmpI (x y : Nat) : Int := if x < y then -1 else if y < x then 1 else 0
theorem cmpI_lt {x y : Nat} (h : x < y) : cmpI x y = -1 := if_pos h
theorem cmpI_gt {x y : Nat} (h : ¬ x < y) (h2 : y < x) : cmpI x y = 1 := by rw [cmpI, if_neg h, if_pos h2]
theorem cmpI_eq {x y : Nat} (h : ¬ x < y) (h2 : ¬ y < x) : cmpI x y = 0 := by rw [cmpI, if_neg h, if_neg h2]
theorem cmpInt_any (x y : Nat) (w : World) : Calls Tryz.prog 99 #[.int .i64 (x : Int), .int .i64 (y : Int)] w fun e w' => e = .returned (.int .i64 (cmpI x y)) ∧ Below w.heap.size w w' := by
  obtain ⟨v, hv⟩ : ∃ v, v = cmpI x y := ⟨_, rfl⟩
  rw [← hv]
  have HV := Lib.hid hv
  clear hv
  go_enter Tryz.func99, Tryz.ntmps99
  go_wp2_with fail
  (with_reducible refine (isNaNI_any (x : Int) w).mono ?_)
  rintro e w1 ⟨rfl, hb1⟩
  have HB1 := Lib.hid hb1
  clear hb1
  go_wp2_with fail
  (with_reducible refine (isNaNI_any (y : Int) w1).mono ?_)
  rintro e w2 ⟨rfl, hb2⟩
  have HB := Lib.hid (below_next HB1.out hb2)
  clear hb2 HB1
  by_cases h1 : x < y
  · have h1z : (x : Int) < (y : Int) := by omega
    have HE := Lib.hid (show v = -1 by rw [HV.out, cmpI_lt h1])
    go_wp2
    go_ret
    exact ⟨by rw [HE.out]; first | rfl | simp, HB.out⟩
  · have h1z : ¬ (x : Int) < (y : Int) := by omega
    by_cases h2 : y < x
    · have h2z : (y : Int) < (x : Int) := by omega
      have HE := Lib.hid (show v = 1 by rw [HV.out, cmpI_gt h1 h2])
      go_wp2
      go_ret
      exact ⟨by rw [HE.out]; first | rfl | simp, HB.out⟩
    · have h2z : ¬ (y : Int) < (x : Int) := by omega
      have HE := Lib.hid (show v = 0 by rw [HV.out, cmpI_eq h1 h2])
      go_wp2
      go_ret
      exact ⟨by rw [HE.out]; first | rfl | simp, HB.out⟩
set_option maxHeartbeats 8000000 in
set_option maxRecDepth 100000 in
theorem cmpL_any (A1 A2 : Option Addr) (c1 c2 : Nat) (z1 z2 : List Nat) (w : World) (h1 : PlR w A1 c1 z1) (h2 : PlR w A2 c2 z2) (hl1 : z1.length ≤ 1000000) (hl2 : z2.length ≤ 1000000) :
    Calls Tryz.prog 79 #[.slice A1 z1.length c1, .slice A2 z2.length c2] w fun e w' => e = .returned (.int .i64 (cmpL z1 z2)) ∧ Below w.heap.size w w' := by
  have H1 := Lib.hid h1
  have H2 := Lib.hid h2
  clear h1 h2
  go_enter Tryz.func79, Tryz.ntmps79
  go_wp2
  go_loopw [11] (fun iv wr => ∃ i : Nat, iv = .int .i64 (i : Int) ∧ i ≤ z1.length ∧ i ≤ z2.length ∧ cmpL (z1.drop i) (z2.drop i) = cmpL z1 z2 ∧ Below w.heap.size w wr) (fun iv _ => z1.length - (intOf iv).toNat)
  case atStart => exact ⟨0, rfl, Nat.zero_le _, Nat.zero_le _, rfl, Below.refl _ _⟩
  case round =>
    obtain ⟨i, rfl, hi1, hi2, hc, hb⟩ := hrel
    have HB := Lib.hid hb
    have HC := Lib.hid hc
    by_cases hlt : i < z1.length
    · obtain ⟨b1, o1, x, rfl, hx, hk1⟩ := H1.out.at hlt
      have k1 := hk1 wr hb
      by_cases hlt2 : i < z2.length
      · obtain ⟨b2, o2, y, rfl, hy, hk2⟩ := H2.out.at hlt2
        have k2 := hk2 wr hb
        rw [drop_at hx, drop_at hy, cmpL] at hc
        have HC2 := Lib.hid hc
        clear hk1 hk2 hx hy hb hc HC
        go_wp2_with fail
        clear k1 k2
        (with_reducible refine (cmpInt_any x y wr).mono ?_)
        rintro e w2 ⟨rfl, hb2⟩
        have HB2 := Lib.hid (below_next HB.out hb2)
        clear hb2 HB
        by_cases g1 : x < y
        · have hr := HC2.out
          rw [if_pos g1] at hr
          rw [cmpI_lt g1]
          have HR := Lib.hid hr
          clear hr HC2
          go_wp2
          go_ret
          exact ⟨by rw [← HR.out]; first | rfl | simp, HB2.out⟩
        · by_cases g2 : y < x
          · have hr := HC2.out
            rw [if_neg g1, if_pos g2] at hr
            rw [cmpI_gt g1 g2]
            have HR := Lib.hid hr
            clear hr HC2
            go_wp2
            go_ret
            exact ⟨by rw [← HR.out]; first | rfl | simp, HB2.out⟩
          · have hr := HC2.out
            rw [if_neg g1, if_neg g2] at hr
            rw [cmpI_eq g1 g2]
            have HR := Lib.hid hr
            clear hr HC2
            go_wp2
            go_roundw
            case rel => exact ⟨i + 1, by go_num, by omega, by omega, HR.out, HB2.out⟩
            case measure => simp [intOf]; omega
      · rw [drop_at hx, List.drop_of_length_le (show z2.length ≤ i by omega), cmpL] at hc
        have HC2 := Lib.hid hc
        have hge : (z2.length : Int) ≤ (i : Int) := by omega
        have hge2 : ¬ (i : Int) < (z2.length : Int) := by omega
        clear hk1 hx hb hc HC
        go_wp2
        go_ret
        exact ⟨by rw [← HC2.out]; first | rfl | simp, HB.out⟩
    · by_cases hlt2 : z1.length < z2.length
      · have hlz : (z1.length : Int) < (z2.length : Int) := by omega
        have hr : cmpL z1 z2 = -1 := by
          rw [← hc, List.drop_of_length_le (show z1.length ≤ i by omega)]
          have : 0 < (z2.drop i).length := by rw [List.length_drop]; omega
          cases h : z2.drop i with
          | nil => rw [h] at this; simp at this
          | cons a l => rfl
        have HR := Lib.hid hr
        clear hr hc HC hb
        go_wp2
        go_ret
        exact ⟨by rw [HR.out]; first | rfl | simp, HB.out⟩
      · have hlz : ¬ (z1.length : Int) < (z2.length : Int) := by omega
        have hr : cmpL z1 z2 = 0 := by
          rw [← hc, List.drop_of_length_le (show z1.length ≤ i by omega), List.drop_of_length_le (show z2.length ≤ i by omega)]
          rfl
        have HR := Lib.hid hr
        clear hr hc HC hb
        go_wp2
        go_ret
        exact ⟨by rw [HR.out]; first | rfl | simp, HB.out⟩
end Go.Proofs.YtnpfdelklolchaaGreatDoor
