import Derived.Test.YtkoodmoilfgafaaDoorGPlain
import Derived.Test.YtkoodmoilfgafaaDoorGLoad
import Derived.Test.YtkoodmoilfgafaaDoorGArr
import Derived.Maps.AppendAt
import Derived.Test.YtkoodmoilfgafaaDoorGRa
/- Package load: lists of times: checkTimes. -/
namespace Go.Proofs.YtkoodmoilfgafaaDoor
open Go Go.RowKit Go.Proofs

theorem getD_some {zs : List Int} {i : Nat} {z : Int} (h : zs[i]? = some z) : zs.getD i 0 = z := by rw [List.getD_eq_getElem?_getD, h]; rfl
set_option maxHeartbeats 2000000 in
set_option maxRecDepth 100000 in
theorem checkTimes_any (A : Option Addr) (c : Nat) (zs : List Int) (w : World) (hr : Rd w 0 w.heap.size 1 A zs.length (ints zs)) (hl : zs.length ≤ 9223372036854775807) :
    Calls Tryd.prog 49 #[.slice A zs.length c] w fun e w' => e = .returned (.int .i64 (codeT zs)) ∧ Below w.heap.size w w' := by
  have HR := Lib.hid hr
  clear hr
  by_cases h1 : 20000 < zs.length
  · have HE := Lib.hid (show codeT zs = 3 by unfold codeT; rw [if_pos h1])
    go_enter Tryd.func49, Tryd.ntmps49
    go_wp2
    go_ret
    exact ⟨by rw [HE.out]; rfl, Below.refl _ _⟩
  · go_enter Tryd.func49, Tryd.ntmps49
    go_wp2
    go_loopw [3, 4, 10, 15, 22] (fun _ _ i _ _ wr => ∃ k : Nat, k ≤ zs.length ∧ i = .int .i64 k ∧ (∀ j, j < k → elT zs j = 0) ∧ Below w.heap.size w wr) (fun _ _ i _ _ _ => zs.length - (intOf i).toNat)
    case atStart => exact ⟨0, Nat.zero_le _, rfl, fun j hj => by omega, Below.refl _ w⟩
    case round =>
      obtain ⟨k, hk, rfl, hok, hbw⟩ := hrel
      have hsz := hbw.size
      have HOK := Lib.hid hok
      have HBW := Lib.hid hbw
      clear hok
      by_cases hlt : k < zs.length
      · obtain ⟨b, o, u, rfl, hb, hu, qk⟩ := (HR.out.below hbw (Nat.le_refl _)).at1 hlt
        obtain ⟨t, ht, rfl⟩ := ints_get hu
        have hd := getD_some ht
        have HS := Lib.hid (fun h => codeT_at (l := zs) (k := k) h1 hlt HOK.out h)
        have HN := Lib.hid (show elT zs k = 0 → ∀ j, j < k + 1 → elT zs j = 0 from fun h j hj => by
          rcases Nat.eq_or_lt_of_le (Nat.le_of_lt_succ hj) with e | e
          · rw [e]; exact h
          · exact HOK.out j e)
        clear hu ht
        by_cases g1 : t < 0
        · have HV := Lib.hid (show codeT zs = 9 by
            have e : elT zs k = 9 := by unfold elT; rw [hd, if_pos (.inl g1)]
            rw [HS.out (by omega), e])
          have t1 : decide (t < 0) = true := by simpa using g1
          clear hd
          go_wp2
          go_ret
          exact ⟨by rw [HV.out]; rfl, HBW.out⟩
        · have t1 : decide (t < 0) = false := by simpa using g1
          by_cases g2 : 1000000000000 < t
          · have HV := Lib.hid (show codeT zs = 9 by
              have e : elT zs k = 9 := by unfold elT; rw [hd, if_pos (.inr g2)]
              rw [HS.out (by omega), e])
            have t2 : decide (1000000000000 < t) = true := by simpa using g2
            clear hd
            go_wp2
            go_ret
            exact ⟨by rw [HV.out]; rfl, HBW.out⟩
          · have t2 : decide (1000000000000 < t) = false := by simpa using g2
            cases k with
            | zero =>
              have HV := Lib.hid (show elT zs 0 = 0 by unfold elT; rw [hd, if_neg (by omega), if_neg (by omega)])
              clear hd
              rw [Nat.add_zero] at qk
              go_wp2
              go_roundw
              case rel => exact ⟨1, by omega, by go_num, HN.out HV.out, HBW.out⟩
              case measure => simp [intOf]; omega
            | succ k =>
              obtain ⟨b', o', u', hA, hb', hu', qk'⟩ := (HR.out.below hbw (Nat.le_refl _)).at1 (show k < zs.length by omega)
              obtain ⟨t', ht', rfl⟩ := ints_get hu'
              have hd' := getD_some ht'
              simp only [Option.some.injEq, Addr.mk.injEq, and_true] at hA
              obtain ⟨rfl, rfl⟩ := hA
              by_cases g3 : t < t'
              · have HV := Lib.hid (show codeT zs = 10 by
                  have e : elT zs (k + 1) = 10 := by unfold elT; rw [Nat.add_sub_cancel, hd, hd', if_neg (by omega), if_pos ⟨by omega, g3⟩]
                  rw [HS.out (by omega), e])
                have t3 : decide (t < t') = true := by simpa using g3
                clear hd hd' hu' ht'
                go_wp2
                go_ret
                exact ⟨by rw [HV.out]; rfl, HBW.out⟩
              · have t3 : decide (t < t') = false := by simpa using g3
                have HV := Lib.hid (show elT zs (k + 1) = 0 by unfold elT; rw [Nat.add_sub_cancel, hd, hd', if_neg (by omega), if_neg (by omega)])
                clear hd hd' hu' ht'
                go_wp2
                go_roundw
                case rel => exact ⟨k + 1 + 1, by omega, by go_num, HN.out HV.out, HBW.out⟩
                case measure => simp [intOf]; omega
      · have HV := Lib.hid (codeT_end h1 (fun j hj => HOK.out j (by omega)))
        go_wp2
        go_ret
        exact ⟨by rw [HV.out]; rfl, HBW.out⟩
end Go.Proofs.YtkoodmoilfgafaaDoor

/- Package dynamometerref7: timesFault. -/
namespace Go.Proofs.YtkoodmoilfgafaaDoor
open Go Go.RowKit Go.Proofs

set_option maxHeartbeats 2000000 in
set_option maxRecDepth 100000 in
theorem r7Times_any (A : Option Addr) (c : Nat) (zs : List Int) (w : World) (hr : Rd w 0 w.heap.size 1 A zs.length (ints zs)) (hl : zs.length ≤ 9223372036854775807) :
    Calls Tryd.prog 52 #[.slice A zs.length c] w fun e w' => e = .returned (.int .i64 (codeT zs)) ∧ Below w.heap.size w w' := by
  have HR := Lib.hid hr
  clear hr
  by_cases h1 : 20000 < zs.length
  · have HE := Lib.hid (show codeT zs = 3 by unfold codeT; rw [if_pos h1])
    go_enter Tryd.func52, Tryd.ntmps52
    go_wp2
    go_ret
    exact ⟨by rw [HE.out]; rfl, Below.refl _ _⟩
  · go_enter Tryd.func52, Tryd.ntmps52
    go_wp2
    go_loopw [3] (fun i wr => ∃ k : Nat, k ≤ zs.length ∧ i = .int .i64 k ∧ (∀ j, j < k → elT zs j = 0) ∧ Below w.heap.size w wr) (fun i _ => zs.length - (intOf i).toNat)
    case atStart => exact ⟨0, Nat.zero_le _, rfl, fun j hj => by omega, Below.refl _ w⟩
    case round =>
      obtain ⟨k, hk, rfl, hok, hbw⟩ := hrel
      have hsz := hbw.size
      have HOK := Lib.hid hok
      have HBW := Lib.hid hbw
      clear hok
      by_cases hlt : k < zs.length
      · obtain ⟨b, o, u, rfl, hb, hu, qk⟩ := (HR.out.below hbw (Nat.le_refl _)).at1 hlt
        obtain ⟨t, ht, rfl⟩ := ints_get hu
        have hd := getD_some ht
        have HS := Lib.hid (fun h => codeT_at (l := zs) (k := k) h1 hlt HOK.out h)
        have HN := Lib.hid (show elT zs k = 0 → ∀ j, j < k + 1 → elT zs j = 0 from fun h j hj => by
          rcases Nat.eq_or_lt_of_le (Nat.le_of_lt_succ hj) with e | e
          · rw [e]; exact h
          · exact HOK.out j e)
        clear hu ht
        by_cases g1 : t < 0
        · have HV := Lib.hid (show codeT zs = 9 by
            have e : elT zs k = 9 := by unfold elT; rw [hd, if_pos (.inl g1)]
            rw [HS.out (by omega), e])
          have t1 : decide (t < 0) = true := by simpa using g1
          clear hd
          go_wp2
          go_ret
          exact ⟨by rw [HV.out]; rfl, HBW.out⟩
        · have t1 : decide (t < 0) = false := by simpa using g1
          by_cases g2 : 1000000000000 < t
          · have HV := Lib.hid (show codeT zs = 9 by
              have e : elT zs k = 9 := by unfold elT; rw [hd, if_pos (.inr g2)]
              rw [HS.out (by omega), e])
            have t2 : decide (1000000000000 < t) = true := by simpa using g2
            clear hd
            go_wp2
            go_ret
            exact ⟨by rw [HV.out]; rfl, HBW.out⟩
          · have t2 : decide (1000000000000 < t) = false := by simpa using g2
            cases k with
            | zero =>
              have HV := Lib.hid (show elT zs 0 = 0 by unfold elT; rw [hd, if_neg (by omega), if_neg (by omega)])
              clear hd
              rw [Nat.add_zero] at qk
              go_wp2_with fail
              go_quiet (fail)
              go_wp2
              go_roundw
              case rel => exact ⟨1, by omega, by go_num, HN.out HV.out, by first | exact HBW.out | exact below_drewN HBW.out _⟩
              case measure => simp [intOf]; omega
            | succ k =>
              obtain ⟨b', o', u', hA, hb', hu', qk'⟩ := (HR.out.below hbw (Nat.le_refl _)).at1 (show k < zs.length by omega)
              obtain ⟨t', ht', rfl⟩ := ints_get hu'
              have hd' := getD_some ht'
              simp only [Option.some.injEq, Addr.mk.injEq, and_true] at hA
              obtain ⟨rfl, rfl⟩ := hA
              have hk1 : ((k + 1 : Nat) : Int) - 1 = (k : Int) := by omega
              have hk2 : (k : Int) + 1 - 1 = (k : Int) := by omega
              by_cases g3 : t < t'
              · have HV := Lib.hid (show codeT zs = 10 by
                  have e : elT zs (k + 1) = 10 := by unfold elT; rw [Nat.add_sub_cancel, hd, hd', if_neg (by omega), if_pos ⟨by omega, g3⟩]
                  rw [HS.out (by omega), e])
                have t3 : decide (t < t') = true := by simpa using g3
                clear hd hd' hu' ht'
                go_wp2_with fail
                go_quiet (fail)
                go_wp2
                go_ret
                exact ⟨by rw [HV.out]; rfl, by first | exact HBW.out | exact below_drewN HBW.out _⟩
              · have t3 : decide (t < t') = false := by simpa using g3
                have HV := Lib.hid (show elT zs (k + 1) = 0 by unfold elT; rw [Nat.add_sub_cancel, hd, hd', if_neg (by omega), if_neg (by omega)])
                clear hd hd' hu' ht'
                go_wp2_with fail
                go_quiet (fail)
                go_wp2
                go_roundw
                case rel => exact ⟨k + 1 + 1, by omega, by go_num, HN.out HV.out, by first | exact HBW.out | exact below_drewN HBW.out _⟩
                case measure => simp [intOf]; omega
      · have HV := Lib.hid (codeT_end h1 (fun j hj => HOK.out j (by omega)))
        go_wp2
        go_ret
        exact ⟨by rw [HV.out]; rfl, HBW.out⟩
end Go.Proofs.YtkoodmoilfgafaaDoor

/- Fit, in plain Lean: the counts of the steps, the line, and the arrivals of the line in each step. -/
namespace Go.Proofs.YtkoodmoilfgafaaDoor

/-- the step of a time -/
def cellT (w t : Int) : Int := max 0 (t - 1) / w
/-- how many times are in a step -/
def cntT (ts : List Int) (w : Int) (i : Nat) : Nat := (ts.filter fun t => decide (cellT w t = i)).length
theorem cntT_snoc (ts : List Int) (t w : Int) (i : Nat) : cntT (ts ++ [t]) w i = cntT ts w i + if cellT w t = i then 1 else 0 := by
  unfold cntT
  rw [List.filter_append, List.length_append]
  congr 1
  by_cases h : cellT w t = i
  · rw [if_pos h, List.filter_cons_of_pos (by simpa using h)]; rfl
  · rw [if_neg h, List.filter_cons_of_neg (by simpa using h)]; rfl
theorem cntT_le (ts : List Int) (w : Int) (i : Nat) : cntT ts w i ≤ ts.length := List.length_filter_le _ _
theorem cellT_eq {w t : Int} {i : Nat} (hw : 1 ≤ w) (ht : 0 ≤ t) : cellT w t = i ↔ (i * w < t ∧ t ≤ i * w + w) ∨ (i = 0 ∧ t = 0) := by
  unfold cellT
  have e : ∀ q : Int, max 0 (t - 1) / w = q ↔ q * w ≤ max 0 (t - 1) ∧ max 0 (t - 1) < q * w + w := by
    intro q
    have h1 := Int.mul_ediv_add_emod (max 0 (t - 1)) w
    have h2 := Int.emod_nonneg (max 0 (t - 1)) (show w ≠ 0 by omega)
    have h3 := Int.emod_lt_of_pos (max 0 (t - 1)) (show 0 < w by omega)
    constructor
    · intro h; rw [h] at h1; rw [Int.mul_comm] at h1; omega
    · rintro ⟨g1, g2⟩
      have a1 : q ≤ max 0 (t - 1) / w := (Int.le_ediv_iff_mul_le (by omega)).2 g1
      have a2 : max 0 (t - 1) / w < q + 1 := (Int.ediv_lt_iff_lt_mul (by omega)).2 (by rw [Int.add_mul]; omega)
      omega
  rw [e]
  rcases Nat.eq_zero_or_pos i with rfl | hi
  · simp; omega
  · have : w ≤ (i : Int) * w := by
      have := Int.mul_le_mul_of_nonneg_right (show (1 : Int) ≤ i by omega) (show 0 ≤ w by omega)
      omega
    omega
/-- how many steps there are -/
def stepsT (ts : List Int) (w : Int) : Nat := match ts.getLast? with
  | none => 1
  | some t => (cellT w t).toNat + 1
def fitS (ts : List Int) (w : Int) (n : Nat) : List (Int × Int × Int) := (List.range n).map fun i => (w, (cntT ts w i : Int) * (1000000000 / w), (cntT ts w i : Int) * (1000000000 / w))
theorem fitS_length (ts : List Int) (w : Int) (n : Nat) : (fitS ts w n).length = n := by simp [fitS]
theorem fitS_snoc (ts : List Int) (w : Int) (n : Nat) : fitS ts w (n + 1) = fitS ts w n ++ [(w, (cntT ts w n : Int) * (1000000000 / w), (cntT ts w n : Int) * (1000000000 / w))] := by simp [fitS, List.range_succ]
theorem fitS_get {ts : List Int} {w : Int} {n i : Nat} (h : i < n) : (fitS ts w n)[i]? = some (w, (cntT ts w i : Int) * (1000000000 / w), (cntT ts w i : Int) * (1000000000 / w)) := by
  unfold fitS; rw [List.getElem?_map, List.getElem?_range h]; rfl
/-- what Fit returns -/
def fitC (ts : List Int) (w : Int) : Int := if codeT ts ≠ 0 then codeT ts else if w < 1 ∨ 1000000000 % w ≠ 0 then 1 else if 50 < stepsT ts w then 3 else codeS (fitS ts w (stepsT ts w))
def fitL (ts : List Int) (w : Int) : List (Int × Int × Int) := if fitC ts w = 0 then fitS ts w (stepsT ts w) else []

theorem upto_whole {ah : Nat} {s : Stg} {x S : Nat} (hF : 0 < s.F) (h : s.num ah x = S * s.den) : upto (ah, s, x) = S := by
  unfold upto
  simp only
  rw [h]
  have hd : 0 < s.den := by unfold Stg.den; omega
  rw [show S * s.den * 2 + s.den = s.den + s.den * 2 * S by rw [Nat.mul_comm (s.den * 2), ← Nat.mul_assoc, Nat.mul_right_comm, Nat.add_comm]]
  rw [Nat.add_mul_div_left _ _ (by omega), Nat.div_eq_of_lt (by omega), Nat.zero_add]
/-- at the border of steps the arrivals are those of the steps before it -/
theorem upto_steps (F : Nat) (hF : 0 < F) : ∀ (l : List Stg) (cs : List Nat) (ah i : Nat), l.length = cs.length → (∀ (j : Nat) s c, l[j]? = some s → cs[j]? = some c → s.F = F ∧ s.a = s.b ∧ s.parts = 2000000000 * c) → l ≠ [] → i ≤ l.length → ∀ S0, ah = 2000000000 * S0 → upto (loc ah l (i * F)) = S0 + (cs.take i).sum
  | [], _, _, _, _, _, h, _, _, _ => absurd rfl h
  | [s], [c], ah, i, _, hp, _, hi, S0, hS => by
    obtain ⟨h1, h2, h3⟩ := hp 0 s c rfl rfl
    have hi' : i = 0 ∨ i = 1 := by simp at hi; omega
    unfold loc
    rcases hi' with rfl | rfl
    · simp only [Nat.zero_mul, Nat.zero_min, List.take_zero, List.sum_nil, Nat.add_zero]
      refine upto_whole (by omega) ?_
      unfold Stg.num Stg.den
      rw [if_pos (by omega), hS]
      simp only [Nat.mul_zero, Nat.add_zero]
      rw [Nat.mul_comm (2 * s.F), ← Nat.mul_assoc, ← Nat.mul_assoc, Nat.mul_comm S0]
      rw [show 1000000000 * S0 * 2 = 2000000000 * S0 by omega]
    · simp only [Nat.one_mul]
      rw [show min F s.F = s.F by omega]
      rw [show (List.take 1 [c]).sum = c by simp]
      refine upto_whole (by omega) ?_
      rw [num_end, h3, hS]
      unfold Stg.den
      rw [← Nat.mul_add, Nat.mul_comm 2000000000, Nat.mul_assoc]
      congr 1
      omega
  | s :: s' :: r, c :: c' :: cr, ah, i, hl, hp, _, hi, S0, hS => by
    obtain ⟨h1, h2, h3⟩ := hp 0 s c rfl rfl
    unfold loc
    rcases i with _ | i
    · rw [Nat.zero_mul, if_pos (by omega)]
      simp only [List.take_zero, List.sum_nil, Nat.add_zero]
      refine upto_whole (by omega) ?_
      unfold Stg.num Stg.den
      rw [if_pos (by omega), hS]
      simp only [Nat.mul_zero, Nat.add_zero]
      rw [Nat.mul_comm (2 * s.F), ← Nat.mul_assoc, ← Nat.mul_assoc, Nat.mul_comm S0]
      rw [show 1000000000 * S0 * 2 = 2000000000 * S0 by omega]
    · have hge : ¬ (i + 1) * F < s.F := by rw [Nat.add_mul]; omega
      rw [if_neg hge, show (i + 1) * F - s.F = i * F by rw [Nat.add_mul]; omega]
      rw [upto_steps F hF (s' :: r) (c' :: cr) (ah + s.parts) i (by simpa using hl) (fun j x y hx hy => hp (j + 1) x y (by simpa using hx) (by simpa using hy)) (by simp) (by simpa using hi) (S0 + c) (by rw [hS, h3]; omega)]
      simp only [List.take_succ_cons, List.sum_cons]
      omega
  | [_], [], _, _, hl, _, _, _, _, _ => by simp at hl
  | [_], _ :: _ :: _, _, _, hl, _, _, _, _, _ => by simp at hl
  | _ :: _ :: _, [], _, _, hl, _, _, _, _, _ => by simp at hl
  | _ :: _ :: _, [_], _, _, hl, _, _, _, _, _ => by simp at hl
theorem fit_bef {ts : List Int} {w : Nat} {n i : Nat} (hw : 1 ≤ w) (hdv : 1000000000 % w = 0) (hn : 0 < n) (hi : i ≤ n) : befN (fitS ts w n) (i * w + 1) = ((List.range i).map (cntT ts w)).sum := by
  unfold befN
  rw [if_neg (by omega), Nat.add_sub_cancel]
  have e : ((List.range n).map (cntT ts w)).take i = (List.range i).map (cntT ts w) := by
    rw [← List.map_take, List.take_range, Nat.min_eq_left hi]
  have := upto_steps w (by omega) (stgs (fitS ts w n)) ((List.range n).map (cntT ts w)) 0 i (by simp [stgs, fitS]) (fun j s c hs hc => ?_) (by
    intro h
    have : (stgs (fitS ts w n)).length = n := by simp [stgs, fitS]
    rw [h] at this; simp at this; omega) (by simp [stgs, fitS]; omega) 0 (by omega)
  · rw [e, Nat.zero_add] at this
    exact this
  · unfold stgs at hs
    rw [List.getElem?_map] at hs hc
    by_cases hj : j < n
    · rw [fitS_get hj] at hs
      rw [List.getElem?_range hj] at hc
      simp only [Option.map_some, Option.some.injEq] at hs hc
      subst hs hc
      refine ⟨by simp [toStg], rfl, ?_⟩
      unfold Stg.parts toStg
      simp only
      have hdi : ((1000000000 : Int) / (w : Int)) = ((1000000000 / w : Nat) : Int) := by simp
      have h2 : w * (1000000000 / w) = 1000000000 := by
        have := Nat.div_add_mod 1000000000 w
        omega
      rw [hdi]
      have h3 : ((cntT ts (w : Int) j : Int) * ((1000000000 / w : Nat) : Int)).toNat = cntT ts w j * (1000000000 / w) := by
        rw [← Int.natCast_mul]; rfl
      rw [h3, Int.toNat_natCast, Nat.add_mul, Nat.mul_assoc, Nat.mul_comm (1000000000 / w), h2]
      omega
    · rw [List.getElem?_eq_none (by simp; omega)] at hc
      cases hc
end Go.Proofs.YtkoodmoilfgafaaDoor

/- Package dynamometerref7: Fit. -/
namespace Go.Proofs.YtkoodmoilfgafaaDoor
open Go Go.RowKit Go.Proofs

theorem infoStg : (Tryd.prog.info? 66).map (fun i => (i.zero, i.size, i.bytes)) = some (some (.agg #[.int .i64 0, .int .i64 0, .int .i64 0]), 3, 24) := by kernel_rfl
theorem cell_three_new (w : World) (x y z : Value) (t : TypeId) : ∀ j u, [x, y, z][j]? = some u → (w.alloc (.cells #[x, y, z] t)).cell? ((⟨w.heap.size, 0, none⟩ : Addr).add j) = some u := by
  intro j u hj
  match j, hj with
  | 0, hj => simp at hj; subst hj; simp [Addr.add]
  | 1, hj => simp at hj; subst hj; simp [Addr.add]
  | 2, hj => simp at hj; subst hj; simp [Addr.add]
theorem cells3_end : ∀ (l : List (Int × Int × Int)) (s : Int × Int × Int), cells3 (l ++ [s]) = cells3 l ++ [.int .i64 s.1, .int .i64 s.2.1, .int .i64 s.2.2]
  | [], _ => rfl
  | x :: r, s => by rw [List.cons_append, cells3, cells3_end r]; rfl
/-- the greatest time, 0 at least -/
def lastT (ts : List Int) : Int := ts.foldl max 0
theorem lastT_snoc (ts : List Int) (t : Int) : lastT (ts ++ [t]) = max (lastT ts) t := by simp [lastT, List.foldl_append]
theorem okT_mono {ts : List Int} (h : OkT ts) : ∀ (i j : Nat) (s t : Int), i ≤ j → ts[i]? = some s → ts[j]? = some t → s ≤ t := by
  intro i j
  induction j with
  | zero => intro s t hij hs ht; obtain rfl : i = 0 := by omega
            rw [hs] at ht; cases ht; omega
  | succ j ih =>
    intro s t hij hs ht
    rcases Nat.eq_or_lt_of_le hij with e | e
    · subst e; rw [hs] at ht; cases ht; omega
    · have hjl := (List.getElem?_eq_some_iff.1 ht).1
      obtain ⟨u, hu⟩ : ∃ u, ts[j]? = some u := ⟨ts[j]'(by omega), List.getElem?_eq_getElem (by omega)⟩
      have h1 := ih s u (by omega) hs hu
      have h2 := h.el (j + 1) hjl
      unfold elT at h2
      rw [Nat.add_sub_cancel, List.getD_eq_getElem?_getD, List.getD_eq_getElem?_getD, ht, hu] at h2
      simp only [Option.getD_some] at h2
      split at h2
      · omega
      · split at h2
        · omega
        · rename_i h3 h4
          have : ¬ t < u := fun h => h4 ⟨by omega, h⟩
          omega
theorem lastT_take {ts : List Int} (h : OkT ts) : ∀ k, k < ts.length → ∃ t, ts[k]? = some t ∧ lastT (ts.take (k + 1)) = t := by
  intro k
  induction k with
  | zero =>
    intro hk
    obtain ⟨u, hu⟩ : ∃ u, ts[0]? = some u := ⟨ts[0]'(by omega), List.getElem?_eq_getElem (by omega)⟩
    refine ⟨u, hu, ?_⟩
    have hr := h.range hu
    rw [List.take_add_one, hu]
    simp [lastT]; omega
  | succ k ih =>
    intro hk
    obtain ⟨t, ht, hl⟩ := ih (by omega)
    obtain ⟨u, hu⟩ : ∃ u, ts[k + 1]? = some u := ⟨ts[k + 1]'(by omega), List.getElem?_eq_getElem (by omega)⟩
    refine ⟨u, hu, ?_⟩
    have := okT_mono h k (k + 1) t u (by omega) ht hu
    rw [List.take_add_one, hu, Option.toList_some, lastT_snoc, hl]
    omega
theorem lastT_last {ts : List Int} {w : Int} (h : OkT ts) : stepsT ts w = (cellT w (lastT ts)).toNat + 1 := by
  unfold stepsT
  rcases Nat.eq_zero_or_pos ts.length with h0 | h0
  · have : ts = [] := List.eq_nil_of_length_eq_zero h0
    subst this
    have e : cellT w (lastT []) = 0 := by simp only [lastT, List.foldl_nil, cellT]; rw [show max (0 : Int) (0 - 1) = 0 by omega, Int.zero_ediv]
    rw [e]; rfl
  · obtain ⟨t, ht, hl⟩ := lastT_take h (ts.length - 1) (by omega)
    rw [Nat.sub_add_cancel h0, List.take_of_length_le (Nat.le_refl _)] at hl
    have : ts.getLast? = some t := by rw [List.getLast?_eq_getElem?]; exact ht
    rw [this, hl]
theorem lastT_range {ts : List Int} (h : OkT ts) : 0 ≤ lastT ts ∧ lastT ts ≤ 1000000000000 := by
  rcases Nat.eq_zero_or_pos ts.length with h0 | h0
  · have : ts = [] := List.eq_nil_of_length_eq_zero h0
    subst this
    simp [lastT]
  · obtain ⟨t, ht, hl⟩ := lastT_take h (ts.length - 1) (by omega)
    rw [Nat.sub_add_cancel h0, List.take_of_length_le (Nat.le_refl _)] at hl
    rw [hl]; exact h.range ht
/-- the last step -/
theorem steps_at {ts : List Int} {w : Int} {k : Nat} (h : OkT ts) (hw : 1 ≤ w) (hk : 0 < k) (h1 : k = 1 ∨ ((k - 1 : Nat) : Int) * w < lastT ts) (h2 : lastT ts ≤ (k : Int) * w) : stepsT ts w = k := by
  have hr := lastT_range h
  have e : cellT w (lastT ts) = ((k - 1 : Nat) : Int) := by
    rw [cellT_eq hw hr.1]
    have hm : (k : Int) * w = ((k - 1 : Nat) : Int) * w + w := by
      have : (k : Int) = ((k - 1 : Nat) : Int) + 1 := by omega
      conv => lhs; rw [this]
      rw [Int.add_mul, Int.one_mul]
    rcases h1 with rfl | h1
    · simp at h2 ⊢; omega
    · left; omega
  rw [lastT_last h, e]; omega
theorem steps_more {ts : List Int} {w : Int} {k : Nat} (h : OkT ts) (hw : 1 ≤ w) (h1 : (k : Int) * w < lastT ts) : k < stepsT ts w := by
  have hr := lastT_range h
  rw [lastT_last h]
  have : (k : Int) ≤ cellT w (lastT ts) := by
    unfold cellT
    rw [Int.le_ediv_iff_mul_le (by omega)]
    omega
  omega
theorem fitC_ok {ts : List Int} {w : Int} (hc : codeT ts = 0) (hw : ¬ (w < 1 ∨ 1000000000 % w ≠ 0)) : fitC ts w = if 50 < stepsT ts w then 3 else codeS (fitS ts w (stepsT ts w)) := by
  unfold fitC; rw [if_neg (by omega), if_neg hw]
theorem fit_done {ts : List Int} {w : Int} {k : Nat} (hc : codeT ts = 0) (hw : ¬ (w < 1 ∨ 1000000000 % w ≠ 0)) (hs : stepsT ts w = k) : fitC ts w = codeS (fitS ts w k) ∧ fitL ts w = if codeS (fitS ts w k) = 0 then fitS ts w k else [] := by
  have e : fitC ts w = codeS (fitS ts w k) := by
    rw [fitC_ok hc hw, hs]
    split
    · rename_i h
      unfold codeS
      rw [fitS_length, if_neg (by omega), if_pos h]
    · rfl
  exact ⟨e, by unfold fitL; rw [e, hs]⟩
theorem fit_many {ts : List Int} {w : Int} (hc : codeT ts = 0) (hw : ¬ (w < 1 ∨ 1000000000 % w ≠ 0)) (hs : 50 < stepsT ts w) : fitC ts w = 3 ∧ codeS (fitS ts w 51) = 3 ∧ fitL ts w = [] := by
  have e : fitC ts w = 3 := by rw [fitC_ok hc hw, if_pos hs]
  refine ⟨e, ?_, by unfold fitL; rw [e, if_neg (by omega)]⟩
  unfold codeS
  rw [fitS_length, if_neg (by omega), if_pos (by omega)]

set_option maxHeartbeats 4000000 in
set_option maxRecDepth 100000 in
theorem r7Fit_any (A : Option Addr) (c : Nat) (ts : List Int) (wd : Int) (w : World) (hr : Rd w 0 w.heap.size 1 A ts.length (ints ts)) (hl : ts.length ≤ 9223372036854775807) (hwd : -9223372036854775808 ≤ wd ∧ wd ≤ 9223372036854775807) :
    Calls Tryd.prog 18 #[.slice A ts.length c, .int .i64 wd] w fun e w' => ∃ A' c', e = .returned (.tuple #[.slice A' (fitL ts wd).length c', .int .i64 (fitC ts wd)]) ∧ Rd w' 0 w'.heap.size 3 A' (fitL ts wd).length (cells3 (fitL ts wd)) ∧ Below w.heap.size w w' := by
  obtain ⟨ii, hii, hiz0, hiz1, hiz2⟩ := info_parts infoStg
  have HCK := Lib.hid (r7Times_any A c ts w hr hl)
  have HR := Lib.hid hr
  clear hr
  by_cases hc : codeT ts = 0
  · have hok := codeT_ok hc
    have HOK := Lib.hid hok
    have hn := hok.le
    rw [hc] at HCK
    by_cases hw1 : wd < 1
    · have HFC := Lib.hid (show fitC ts wd = 1 by unfold fitC; rw [if_neg (by omega), if_pos (.inl hw1)])
      have HFL := Lib.hid (show fitL ts wd = [] by unfold fitL; rw [HFC.out, if_neg (by omega)])
      have t1 : decide (wd < 1) = true := by simpa using hw1
      clear hok hc
      go_enter Tryd.func18, Tryd.ntmps18
      go_wp2_with fail
      refine HCK.out.mono ?_
      rintro e w1 ⟨rfl, hb1⟩
      go_wp2
      go_ret2
      exact ⟨none, 0, by rw [HFC.out, HFL.out]; rfl, by rw [HFL.out]; exact Rd.nil, hb1⟩
    · have t1 : decide (wd < 1) = false := by simpa using hw1
      have hne : ¬ wd = 0 := by omega
      by_cases hw2 : 1000000000 % wd ≠ 0
      · have HFC := Lib.hid (show fitC ts wd = 1 by unfold fitC; rw [if_neg (by omega), if_pos (.inr hw2)])
        have HFL := Lib.hid (show fitL ts wd = [] by unfold fitL; rw [HFC.out, if_neg (by omega)])
        have t2 : (1000000000 % wd == 0) = false := by simpa using hw2
        have t4 : (1000000000 % wd != 0) = true := by simpa using hw2
        have t3 : (Int.tmod 1000000000 wd == 0) = false := by rw [Int.tmod_eq_emod_of_nonneg (by omega)]; simpa using hw2
        clear hok hc
        go_enter Tryd.func18, Tryd.ntmps18
        go_wp2_with fail
        refine HCK.out.mono ?_
        rintro e w1 ⟨rfl, hb1⟩
        go_wp2
        go_ret2
        exact ⟨none, 0, by rw [HFC.out, HFL.out]; rfl, by rw [HFL.out]; exact Rd.nil, hb1⟩
      · have hw2' : 1000000000 % wd = 0 := by omega
        have t2 : (1000000000 % wd == 0) = true := by simpa using hw2'
        have t4 : (1000000000 % wd != 0) = false := by simpa using hw2'
        have t3 : (Int.tmod 1000000000 wd == 0) = true := by rw [Int.tmod_eq_emod_of_nonneg (by omega)]; simpa using hw2'
        have HBADN := Lib.hid (show ¬ (wd < 1 ∨ 1000000000 % wd ≠ 0) by omega)
        have hwd9 : wd ≤ 1000000000 := by
          have := Int.emod_eq_of_lt (a := 1000000000) (b := wd) (by omega)
          refine Classical.byContradiction fun h => ?_
          rw [this (by omega)] at hw2'; omega
        obtain ⟨q, hq⟩ : ∃ q, q = 1000000000 / wd := ⟨_, rfl⟩
        have hq0 : 0 ≤ q := by rw [hq]; exact Int.ediv_nonneg (by omega) (by omega)
        have hq1 : q ≤ 1000000000 := by rw [hq]; exact Int.ediv_le_self _ (by omega)
        have HQ := Lib.hid hq
        have HC := Lib.hid hc
        clear hok hc hw2 hw2' hq
        go_enter Tryd.func18, Tryd.ntmps18
        go_wp2_with fail
        refine HCK.out.mono ?_
        rintro e w1 ⟨rfl, hb1⟩
        have HB1 := Lib.hid hb1
        have HR1 := Lib.hid (HR.out.old hb1)
        have hs1 := hb1.size
        clear hb1
        go_wp2_with fail
        go_loopw [7, 8] (fun lv iv wr => ∃ k : Nat, iv = .int .i64 k ∧ k ≤ ts.length ∧ lv = .int .i64 (lastT (ts.take k)) ∧ wr = w1) (fun _ iv _ => ts.length - (intOf iv).toNat)
        case atStart => exact ⟨0, rfl, Nat.zero_le _, rfl, by trivial⟩
        case round =>
          obtain ⟨k, rfl, hk, rfl, rfl⟩ := hrel
          by_cases hlt : k < ts.length
          · obtain ⟨b, o, u, rfl, hb, hu, qk⟩ := HR1.out.at1 hlt
            obtain ⟨t, ht, rfl⟩ := ints_get hu
            have HLS := Lib.hid (show lastT (ts.take (k + 1)) = max (lastT (ts.take k)) t by rw [List.take_add_one, ht, Option.toList_some, lastT_snoc])
            obtain ⟨lt, hlt'⟩ : ∃ lt, lt = lastT (ts.take k) := ⟨_, rfl⟩
            rw [← hlt'] at HLS ⊢
            clear hu ht hlt'
            go_wp2
            go_roundw
            case rel => exact ⟨k + 1, by go_num, by omega, by rw [HLS.out], by trivial⟩
            case measure => simp [intOf]; omega
          · obtain rfl : k = ts.length := by omega
            rw [List.take_of_length_le (Nat.le_refl _)]
            have hlr := lastT_range HOK.out
            have HSA := Lib.hid (fun (k : Nat) h1 h2 h3 => steps_at (ts := ts) (w := wd) (k := k) HOK.out (by omega) h1 h2 h3)
            have HSM := Lib.hid (fun (k : Nat) h1 => steps_more (ts := ts) (w := wd) (k := k) HOK.out (by omega) h1)
            obtain ⟨last, hlast⟩ : ∃ last, last = lastT ts := ⟨_, rfl⟩
            rw [← hlast] at hlr HSA HSM ⊢
            clear hlast hlt
            obtain ⟨wL, hwL⟩ : ∃ z : World, z = wr := ⟨_, rfl⟩
            subst hwL
            go_wp2_with fail
            go_loopw [9, 10, 11, 12, 13] (fun ov fv _ _ _ wz => ∃ k : Nat, fv = .int .i64 ((k : Int) * wd) ∧ k ≤ 50 ∧ (k = 0 ∨ k = 1 ∨ ((k - 1 : Nat) : Int) * wd < last) ∧ wz.ownsRow wL.heap.size 66 3 ov k (cells3 (fitS ts wd k)) ∧ Below wL.heap.size wL wz) (fun _ fv _ _ _ _ => (51000000000 - intOf fv).toNat)
            case atStart => exact ⟨0, by rw [Int.natCast_zero, Int.zero_mul], by omega, .inl rfl, ⟨by simp [fitS, cells3], .inl ⟨rfl, rfl⟩⟩, Below.refl _ _⟩
            case round =>
              obtain ⟨k, rfl, hk, hkl, hown, hbw⟩ := hrel
              obtain ⟨fr, hfr⟩ : ∃ fr, fr = (k : Int) * wd := ⟨_, rfl⟩
              rw [← hfr]
              have hfr0 : 0 ≤ fr := by rw [hfr]; exact Int.mul_nonneg (by omega) (by omega)
              have hfr1 : fr ≤ 50000000000 := by
                have h1 : (k : Int) * wd ≤ 50 * wd := Int.mul_le_mul_of_nonneg_right (by omega) (by omega)
                omega
              have hfz : fr = 0 ↔ k = 0 := by
                rw [hfr, Int.mul_eq_zero]; omega
              have HFR := Lib.hid hfr
              have hsz := hbw.size
              have HOW := Lib.hid hown
              have HBW := Lib.hid hbw
              clear hfr
              by_cases hgo : fr = 0 ∨ fr < last
              · have HKL := Lib.hid (show k + 1 = 0 ∨ k + 1 = 1 ∨ ((k + 1 - 1 : Nat) : Int) * wd < last by
                  rcases hgo with h | h
                  · right; left; have := hfz.1 h; omega
                  · right; right; rw [Nat.add_sub_cancel, ← HFR.out]; exact h)
                have HNX := Lib.hid (show fr + wd = ((k + 1 : Nat) : Int) * wd by rw [HFR.out, Int.natCast_add, Int.add_mul]; simp)
                clear hown hbw hkl
                go_upto_region 13 with fail
                go_cut [45] from 39 to 97 (fun v wx => v = .bool true ∧ wx = wr)
                case first =>
                  by_cases h0 : fr = 0
                  · have e0 : (fr == 0) = true := by simpa using h0
                    go_wp2
                    go_meet
                    exact ⟨rfl, rfl⟩
                  · have e0 : (fr == 0) = false := by simpa using h0
                    have e1 : decide (fr < last) = true := by simp; omega
                    go_wp2
                    go_meet
                    exact ⟨rfl, rfl⟩
                case rest =>
                  obtain ⟨rfl, rfl⟩ := hcut
                  go_wp2_with fail
                  go_loopw [11, 12] (fun nv iv wz => ∃ j : Nat, iv = .int .i64 j ∧ j ≤ ts.length ∧ nv = .int .i64 (cntT (ts.take j) wd k : Nat) ∧ wz = wc) (fun _ iv _ => ts.length - (intOf iv).toNat)
                  case atStart => exact ⟨0, rfl, Nat.zero_le _, rfl, by trivial⟩
                  case round =>
                    obtain ⟨j, rfl, hj, rfl, rfl⟩ := hrel
                    by_cases hlt2 : j < ts.length
                    · obtain ⟨b, o, u, hA, hb, hu, qk⟩ := (HR1.out.old HBW.out).at1 hlt2
                      obtain ⟨t, ht, rfl⟩ := ints_get hu
                      subst hA
                      have hrt := HOK.out.range ht
                      have HCN := Lib.hid (show cntT (ts.take (j + 1)) wd k = cntT (ts.take j) wd k + if cellT wd t = k then 1 else 0 by rw [List.take_add_one, ht, Option.toList_some, cntT_snoc])
                      have hce : cellT wd t = k ↔ (fr < t ∧ t ≤ fr + wd) ∨ (k = 0 ∧ t = 0) := by rw [cellT_eq (by omega) hrt.1, HFR.out]
                      obtain ⟨m, hm⟩ : ∃ m, m = cntT (ts.take j) wd k := ⟨_, rfl⟩
                      have hmj : m ≤ 20000 := by rw [hm]; have := cntT_le (ts.take j) wd k; rw [List.length_take] at this; omega
                      rw [← hm] at HCN ⊢
                      clear hu ht hm
                      by_cases d1 : fr < t
                      · have f1 : decide (fr < t) = true := by simpa using d1
                        have f4 : (t == 0) = false := by simp; omega
                        by_cases d2 : t ≤ fr + wd
                        · have f2 : decide (t ≤ fr + wd) = true := by simpa using d2
                          have HCT : cellT wd t = k := hce.2 (.inl ⟨d1, d2⟩)
                          clear hce
                          go_wp2
                          go_roundw
                          case rel => refine ⟨j + 1, by go_num, by omega, ?_⟩; first | exact ⟨by rw [HCN.out, if_pos HCT]; rfl, by trivial⟩ | (rw [HCN.out, if_pos HCT]; rfl) | (rw [HCN.out, if_pos HCT]; done)
                          case measure => simp [intOf]; omega
                        · have f2 : decide (t ≤ fr + wd) = false := by simpa using d2
                          have HCT : ¬ cellT wd t = k := fun h => by rcases hce.1 h with ⟨_, h2⟩ | ⟨_, h2⟩ <;> omega
                          clear hce
                          by_cases d3 : fr = 0
                          · have f3 : (fr == 0) = true := by simpa using d3
                            go_wp2
                            go_roundw
                            case rel => refine ⟨j + 1, by go_num, by omega, ?_⟩; first | exact ⟨by rw [HCN.out, if_neg HCT]; rfl, by trivial⟩ | (rw [HCN.out, if_neg HCT]; rfl) | (rw [HCN.out, if_neg HCT]; done)
                            case measure => simp [intOf]; omega
                          · have f3 : (fr == 0) = false := by simpa using d3
                            go_wp2
                            go_roundw
                            case rel => refine ⟨j + 1, by go_num, by omega, ?_⟩; first | exact ⟨by rw [HCN.out, if_neg HCT]; rfl, by trivial⟩ | (rw [HCN.out, if_neg HCT]; rfl) | (rw [HCN.out, if_neg HCT]; done)
                            case measure => simp [intOf]; omega
                      · have f1 : decide (fr < t) = false := by simpa using d1
                        by_cases d3 : fr = 0
                        · have f3 : (fr == 0) = true := by simpa using d3
                          have f4 : (t == 0) = true := by simp; omega
                          have HCT : cellT wd t = k := hce.2 (.inr ⟨hfz.1 d3, by omega⟩)
                          clear hce
                          go_wp2
                          go_roundw
                          case rel => refine ⟨j + 1, by go_num, by omega, ?_⟩; first | exact ⟨by rw [HCN.out, if_pos HCT]; rfl, by trivial⟩ | (rw [HCN.out, if_pos HCT]; rfl) | (rw [HCN.out, if_pos HCT]; done)
                          case measure => simp [intOf]; omega
                        · have f3 : (fr == 0) = false := by simpa using d3
                          have HCT : ¬ cellT wd t = k := fun h => by rcases hce.1 h with ⟨h1, _⟩ | ⟨h1, _⟩ <;> omega
                          clear hce
                          go_wp2
                          go_roundw
                          case rel => refine ⟨j + 1, by go_num, by omega, ?_⟩; first | exact ⟨by rw [HCN.out, if_neg HCT]; rfl, by trivial⟩ | (rw [HCN.out, if_neg HCT]; rfl) | (rw [HCN.out, if_neg HCT]; done)
                          case measure => simp [intOf]; omega
                    · obtain rfl : j = ts.length := by omega
                      rw [List.take_of_length_le (Nat.le_refl _)]
                      have hmj := cntT_le ts wd k
                      have HES := Lib.hid (show cells3 (fitS ts wd (k + 1)) = cells3 (fitS ts wd k) ++ [.int .i64 wd, .int .i64 ((cntT ts wd k : Int) * q), .int .i64 ((cntT ts wd k : Int) * q)] by rw [fitS_snoc, cells3_end, HQ.out])
                      obtain ⟨m, hm⟩ : ∃ m, m = cntT ts wd k := ⟨_, rfl⟩
                      rw [← hm] at HES hmj ⊢
                      obtain ⟨rt, hrt⟩ : ∃ rt, rt = (m : Int) * q := ⟨_, rfl⟩
                      have hrt0 : 0 ≤ rt := by rw [hrt]; exact Int.mul_nonneg (by omega) hq0
                      have hrt1 : rt ≤ 20000000000000 := by
                        have h1 : (m : Int) * q ≤ 20000 * q := Int.mul_le_mul_of_nonneg_right (by omega) hq0
                        omega
                      have hqd : 1000000000 / wd = q := HQ.out.symm
                      have hwr : IntKind.i64.wrap ((m : Int) * q) = rt := by rw [← hrt]; exact IntWalk.i64_in _ (by omega)
                      have hmr : (m : Int) * q = rt := hrt.symm
                      rw [← hrt] at HES
                      clear hm hrt hlt2
                      go_wp2_with (at_builtin; refine wpList_append_own _ rfl (.tmp 88) (.tmp 93) 22 rfl wL.heap.size 66 ii _ 3 24 Tryd.underlying22 hii hiz0 hiz1 hiz2 rfl (by decide) _ k (cells3 (fitS ts wd k)) rfl (HOW.out.alloc _) ⟨wr.heap.size, 0, none⟩ 1 1 [.int .i64 wd, .int .i64 rt, .int .i64 rt] rfl rfl (cell_three_new _ _ _ _ _) (by simp [Value.oneCell']) (by unfold maxLen; omega) (by omega) (by simp; omega) ?_)
                      intro v' w6 hown6 hgr6 _
                      have hb6 : Below wL.heap.size wL w6 := (HBW.out.alloc hsz _).trans ((Fr.of_grown hgr6).below (B := wL.heap.size) (by simp; omega) (fun i hi hm => by have := (ownsRow_block HOW.out hm).1; omega))
                      have hown6 : w6.ownsRow wL.heap.size 66 3 v' (k + 1) (cells3 (fitS ts wd (k + 1))) := by rw [HES.out]; exact hown6
                      have HB6 := Lib.hid hb6
                      have HO6 := Lib.hid hown6
                      clear hgr6 hqd hwr hmr HES
                      by_cases hbig : k = 50
                      · subst hbig
                        have HSM2 := HSM.out 50 (by rw [← HFR.out]; rcases hgo with h | h
                                                    · exact absurd (hfz.1 h) (by omega)
                                                    · exact h)
                        obtain ⟨g1, g2, g3⟩ := fit_many HC.out HBADN.out HSM2
                        have HFC := Lib.hid (show fitC ts wd = codeS (fitS ts wd 51) by rw [g1, g2])
                        have HFL := Lib.hid (show fitL ts wd = if codeS (fitS ts wd 51) = 0 then fitS ts wd 51 else [] by rw [g3, if_neg (by rw [g2]; omega)])
                        clear g1 g2 g3 HSM2 hb6
                        simp only [Nat.reduceAdd] at hown6 HO6
                        obtain ⟨Ao, co, rfl, _, _, _⟩ := ownsRow_shape hown6
                        have hrd := (Rd.of_own hown6).more (Nat.zero_le _) (Nat.le_refl _)
                        have hlen : (fitS ts wd 51).length = 51 := fitS_length ts wd 51
                        have HCK2 := Lib.hid (r7Check_any Ao co (fitS ts wd 51) _ (by rw [hlen]; exact hrd) (by rw [hlen]; omega))
                        rw [hlen] at HCK2
                        have HRD := Lib.hid hrd
                        have HBE := Lib.hid (below_next HB1.out HB6.out)
                        obtain ⟨L, hL⟩ : ∃ L, L = fitS ts wd 51 := ⟨_, rfl⟩
                        rw [← hL] at HCK2 HRD HFC HFL
                        have HLL := Lib.hid (show L.length = 51 by rw [hL]; exact hlen)
                        obtain ⟨cc, hcc⟩ : ∃ cc, cc = codeS L := ⟨_, rfl⟩
                        rw [← hcc] at HCK2 HFC HFL
                        clear hL hcc hlen hrd
                        by_cases hz : cc = 0
                        · have HFZ := Lib.hid (show fitL ts wd = L by rw [HFL.out, if_pos hz])
                          subst hz
                          go_wp2_with fail
                          refine HCK2.out.mono ?_
                          rintro e w8 ⟨rfl, hb8⟩
                          have HB8 := Lib.hid hb8
                          clear hb8
                          go_wp2
                          go_ret2
                          refine ⟨Ao, co, ?_, ?_, below_next HBE.out HB8.out⟩
                          · rw [HFC.out, HFZ.out, HLL.out]; rfl
                          · rw [HFZ.out, HLL.out]; exact (HRD.out.below HB8.out (Nat.le_refl _)).more (Nat.le_refl _) HB8.out.size
                        · have tz : (cc != 0) = true := by simpa using hz
                          go_wp2_with fail
                          refine HCK2.out.mono ?_
                          rintro e w8 ⟨rfl, hb8⟩
                          have HB8 := Lib.hid hb8
                          clear hb8
                          go_wp2
                          go_ret2
                          exact ⟨none, 0, by rw [HFC.out, HFL.out, if_neg hz]; rfl, by rw [HFL.out, if_neg hz]; exact Rd.nil, below_next HBE.out HB8.out⟩
                      · have e2 : decide (50 < (k : Int) + 1) = false := by simp; omega
                        have e3 : decide (50 < k + 1) = false := by simp; omega
                        obtain ⟨Av, cv, rfl, _, _, _⟩ := ownsRow_shape hown6
                        clear hown6 hb6
                        go_wp2
                        go_roundw
                        case rel => exact ⟨k + 1, by rw [← HNX.out], by omega, HKL.out, HO6.out, HB6.out⟩
                        case measure => simp [intOf]; omega
              · have e0 : (fr == 0) = false := by simp; omega
                have e1 : decide (fr < last) = false := by simp; omega
                have HS := HSA.out k (by omega) (by rcases hkl with h | h | h
                                                    · omega
                                                    · exact .inl h
                                                    · exact .inr h) (by rw [← HFR.out]; omega)
                have hfd := fit_done HC.out HBADN.out HS
                have HFC := Lib.hid hfd.1
                have HFL := Lib.hid hfd.2
                clear hfd HS HSA HSM
                obtain ⟨Ao, co, rfl, _, _, _⟩ := ownsRow_shape hown
                have hrd := (Rd.of_own hown).more (Nat.zero_le _) (Nat.le_refl _)
                have hlen : (fitS ts wd k).length = k := fitS_length ts wd k
                have HCK2 := Lib.hid (r7Check_any Ao co (fitS ts wd k) _ (by rw [hlen]; exact hrd) (by rw [hlen]; omega))
                rw [hlen] at HCK2
                have HRD := Lib.hid hrd
                have HBE := Lib.hid (below_next HB1.out hbw)
                obtain ⟨L, hL⟩ : ∃ L, L = fitS ts wd k := ⟨_, rfl⟩
                rw [← hL] at HCK2 HRD HFC HFL
                have HLL := Lib.hid (show L.length = k by rw [hL]; exact hlen)
                obtain ⟨cc, hcc⟩ : ∃ cc, cc = codeS L := ⟨_, rfl⟩
                rw [← hcc] at HCK2 HFC HFL
                clear hL hcc hlen hrd
                by_cases hz : cc = 0
                · have HFZ := Lib.hid (show fitL ts wd = L by rw [HFL.out, if_pos hz])
                  subst hz
                  go_wp2_with fail
                  refine HCK2.out.mono ?_
                  rintro e w8 ⟨rfl, hb8⟩
                  have HB8 := Lib.hid hb8
                  clear hb8
                  go_wp2
                  go_ret2
                  refine ⟨Ao, co, ?_, ?_, below_next HBE.out HB8.out⟩
                  · rw [HFC.out, HFZ.out, HLL.out]; rfl
                  · rw [HFZ.out, HLL.out]; exact (HRD.out.below HB8.out (Nat.le_refl _)).more (Nat.le_refl _) HB8.out.size
                · have tz : (cc != 0) = true := by simpa using hz
                  go_wp2_with fail
                  refine HCK2.out.mono ?_
                  rintro e w8 ⟨rfl, hb8⟩
                  have HB8 := Lib.hid hb8
                  clear hb8
                  go_wp2
                  go_ret2
                  exact ⟨none, 0, by rw [HFC.out, HFL.out, if_neg hz]; rfl, by rw [HFL.out, if_neg hz]; exact Rd.nil, below_next HBE.out HB8.out⟩
  · have HFC := Lib.hid (show fitC ts wd = codeT ts by unfold fitC; rw [if_pos hc])
    have HFL := Lib.hid (show fitL ts wd = [] by unfold fitL; rw [HFC.out, if_neg hc])
    obtain ⟨cc, hcc⟩ : ∃ cc, cc = codeT ts := ⟨_, rfl⟩
    rw [← hcc] at HCK HFC hc
    have t1 : (cc != 0) = true := by simpa using hc
    clear hcc
    go_enter Tryd.func18, Tryd.ntmps18
    go_wp2_with fail
    refine HCK.out.mono ?_
    rintro e w1 ⟨rfl, hb1⟩
    go_wp2
    go_ret2
    exact ⟨none, 0, by rw [HFC.out, HFL.out]; rfl, by rw [HFL.out]; exact Rd.nil, hb1⟩
end Go.Proofs.YtkoodmoilfgafaaDoor

/- Package load: Fit. Printed by gen_fit.py. -/
namespace Go.Proofs.YtkoodmoilfgafaaDoor
open Go Go.RowKit Go.Proofs

set_option maxHeartbeats 1000000 in
set_option maxRecDepth 100000 in
theorem fitCell_any (t wd : Int) (B : Nat) (w : World) (hB : w.cell? ⟨B, 0, none⟩ = some (.int .i64 wd)) (h0 : 0 ≤ t) (h1 : t ≤ 1000000000000) (hw : 1 ≤ wd) :
    Calls Tryd.prog 50 #[.int .i64 t, .pointer (some ⟨B, 0, none⟩)] w fun e w' => e = .returned (.int .i64 (cellT wd t)) ∧ w = w' := by
  have hne : ¬ wd = 0 := by omega
  have hd0 : 0 ≤ max 0 (t - 1) := by omega
  have HC := Lib.hid (cellT.eq_1 wd t)
  go_enter Tryd.func50, Tryd.ntmps50
  go_wp2
  go_ret
  exact ⟨by rw [HC.out]; rfl, by trivial⟩
set_option maxHeartbeats 1000000 in
set_option maxRecDepth 100000 in
theorem clipStg_any (A : Option Addr) (n c : Nat) (w : World) (hnc : n ≤ c) :
    Calls Tryd.prog 92 #[.slice A n c] w fun e w' => e = .returned (.slice A n n) ∧ w = w' := by
  go_enter Tryd.func92, Tryd.ntmps92
  go_wp2
  go_ret
  exact ⟨rfl, by trivial⟩
set_option maxHeartbeats 1000000 in
set_option maxRecDepth 100000 in
theorem checked_any (A : Option Addr) (c : Nat) (L : List (Int × Int × Int)) (w : World) (hr : Rd w 0 w.heap.size 3 A L.length (cells3 L)) (hl : L.length ≤ 9223372036854775807) (hc : L.length ≤ c) :
    Calls Tryd.prog 51 #[.slice A L.length c] w fun e w' => ∃ A' c', e = .returned (.tuple #[.slice A' (if codeS L = 0 then L else []).length c', .int .i64 (codeS L)]) ∧ Rd w' 0 w'.heap.size 3 A' (if codeS L = 0 then L else []).length (cells3 (if codeS L = 0 then L else [])) ∧ Below w.heap.size w w' := by
  have HCK := Lib.hid (loadCheck_any A c L w hr hl)
  have HR := Lib.hid hr
  have HCL := Lib.hid (fun W => clipStg_any A L.length c W hc)
  obtain ⟨cc, hcc⟩ : ∃ cc, cc = codeS L := ⟨_, rfl⟩
  rw [← hcc] at HCK ⊢
  clear hr hcc
  by_cases hz : cc = 0
  · rw [if_pos hz]
    subst hz
    go_enter Tryd.func51, Tryd.ntmps51
    go_wp2_with fail
    refine HCK.out.mono ?_
    rintro e w1 ⟨rfl, hb1⟩
    have HB1 := Lib.hid hb1
    clear hb1
    go_wp2_with fail
    refine (HCL.out _).mono ?_
    rintro e w2 ⟨rfl, rfl⟩
    go_wp2
    go_ret2
    exact ⟨A, L.length, rfl, HR.out.old HB1.out, HB1.out⟩
  · have tz : (cc != 0) = true := by simpa using hz
    rw [if_neg hz]
    go_enter Tryd.func51, Tryd.ntmps51
    go_wp2_with fail
    refine HCK.out.mono ?_
    rintro e w1 ⟨rfl, hb1⟩
    go_wp2
    go_ret2
    exact ⟨none, 0, rfl, Rd.nil, hb1⟩
/-- the counts behind the first times -/
def cnts (ts : List Int) (wd : Int) (N k : Nat) : List Nat := (List.range N).map fun i => cntT (ts.take k) wd i
theorem cnts_length (ts : List Int) (wd : Int) (N k : Nat) : (cnts ts wd N k).length = N := by simp [cnts]
theorem cnts_get {ts : List Int} {wd : Int} {N k i : Nat} (h : i < N) : (cnts ts wd N k)[i]? = some (cntT (ts.take k) wd i) := by
  unfold cnts; rw [List.getElem?_map, List.getElem?_range h]; rfl
theorem cnts_zero (ts : List Int) (wd : Int) (N : Nat) : cnts ts wd N 0 = List.replicate N 0 := by
  apply List.ext_getElem
  · simp [cnts]
  · intro i h1 h2
    simp [cnts, cntT]
theorem cnts_step {ts : List Int} {wd t : Int} {M k c : Nat} (ht : ts[k]? = some t) (hc : cellT wd t = c) : cnts ts wd M (k + 1) = (cnts ts wd M k).set c (cntT (ts.take k) wd c + 1) := by
  apply List.ext_getElem
  · simp [cnts]
  · intro i h1 h2
    rw [List.getElem_set]
    simp only [cnts, List.getElem_map, List.getElem_range, List.take_add_one, ht, Option.toList_some, cntT_snoc]
    rw [hc]
    by_cases h : c = i
    · subst h; simp
    · rw [if_neg h, if_neg (by omega), Nat.add_zero]
theorem cell_mono {wd s t : Int} (hw : 1 ≤ wd) (h : s ≤ t) : cellT wd s ≤ cellT wd t := by
  unfold cellT
  exact Int.ediv_le_ediv (by omega) (by omega)
theorem cell_nn {wd t : Int} (hw : 1 ≤ wd) : 0 ≤ cellT wd t := by
  unfold cellT; exact Int.ediv_nonneg (by omega) (by omega)
theorem cell_hi {wd t : Int} (_hw : 1 ≤ wd) (h0 : 0 ≤ t) (h1 : t ≤ 1000000000000) : cellT wd t ≤ 1000000000000 := by
  unfold cellT
  have := Int.ediv_le_self wd (show 0 ≤ max 0 (t - 1) by omega)
  omega
theorem cell_lt {ts : List Int} {wd t : Int} {k : Nat} (h : OkT ts) (hw : 1 ≤ wd) (ht : ts[k]? = some t) : ∃ c : Nat, cellT wd t = c ∧ c < stepsT ts wd := by
  have hk := (List.getElem?_eq_some_iff.1 ht).1
  obtain ⟨u, hu, hl⟩ := lastT_take h (ts.length - 1) (by omega)
  rw [Nat.sub_add_cancel (by omega), List.take_of_length_le (Nat.le_refl _)] at hl
  have h1 := okT_mono h k (ts.length - 1) t u (by omega) ht hu
  have h2 := cell_mono hw h1
  have h3 := cell_nn (t := t) hw
  rw [lastT_last h, hl]
  exact ⟨(cellT wd t).toNat, by omega, by omega⟩

set_option maxHeartbeats 4000000 in
set_option maxRecDepth 100000 in
theorem fit_any (A : Option Addr) (c : Nat) (ts : List Int) (wd : Int) (w : World) (hr : Rd w 0 w.heap.size 1 A ts.length (ints ts)) (hl : ts.length ≤ 9223372036854775807) (hwd : -9223372036854775808 ≤ wd ∧ wd ≤ 9223372036854775807) :
    Calls Tryd.prog 17 #[.slice A ts.length c, .int .i64 wd] w fun e w' => ∃ A' c', e = .returned (.tuple #[.slice A' (fitL ts wd).length c', .int .i64 (fitC ts wd)]) ∧ Rd w' 0 w'.heap.size 3 A' (fitL ts wd).length (cells3 (fitL ts wd)) ∧ Below w.heap.size w w' := by
  obtain ⟨ii, hii, hiz0, hiz1, hiz2⟩ := info_parts infoStg
  obtain ⟨i0, hi0, hz0, hz1, hz2⟩ := info_parts Tryd.infoI4
  obtain ⟨W0, hW0⟩ : ∃ W0, W0 = w.alloc (.cells #[.int .i64 wd] 3) := ⟨_, rfl⟩
  have hb0 : Below w.heap.size w W0 := by rw [hW0]; exact (Below.refl _ w).alloc (Nat.le_refl _) _
  have hx0 : W0.heap[w.heap.size]? = some (.cells #[.int .i64 wd] 3 (0, 0)) := by rw [hW0]; exact alloc_at _ _ _ rfl
  have HB0 := Lib.hid hb0
  have HX0 := Lib.hid hx0
  have HBX := Lib.hid (show ∀ X, Below W0.heap.size W0 X → X.cell? ⟨w.heap.size, 0, none⟩ = some (.int .i64 wd) from fun X hX => by
    have e := (hX.block _ (heap_lt HX0.out)).trans HX0.out
    rw [cellsAt e]; rfl)
  have HCK := Lib.hid (checkTimes_any A c ts W0 (hr.old hb0) hl)
  have HR := Lib.hid (hr.old hb0)
  clear hr hb0 hx0
  by_cases hc : codeT ts = 0
  · have hok := codeT_ok hc
    have HOK := Lib.hid hok
    have hn := hok.le
    rw [hc] at HCK
    by_cases hw1 : wd < 1
    · have HFC := Lib.hid (show fitC ts wd = 1 by unfold fitC; rw [if_neg (by omega), if_pos (.inl hw1)])
      have HFL := Lib.hid (show fitL ts wd = [] by unfold fitL; rw [HFC.out, if_neg (by omega)])
      have t1 : decide (wd < 1) = true := by simpa using hw1
      clear hok hc
      go_enter Tryd.func17, Tryd.ntmps17
      go_wp2_with fail
      rw [← hW0]
      refine HCK.out.mono ?_
      rintro e w1 ⟨rfl, hb1⟩
      have k1 := HBX.out w1 hb1
      go_wp2
      go_ret2
      exact ⟨none, 0, by rw [HFC.out, HFL.out]; rfl, by rw [HFL.out]; exact Rd.nil, below_next HB0.out hb1⟩
    · have t1 : decide (wd < 1) = false := by simpa using hw1
      have hne : ¬ wd = 0 := by omega
      by_cases hw2 : 1000000000 % wd ≠ 0
      · have HFC := Lib.hid (show fitC ts wd = 1 by unfold fitC; rw [if_neg (by omega), if_pos (.inr hw2)])
        have HFL := Lib.hid (show fitL ts wd = [] by unfold fitL; rw [HFC.out, if_neg (by omega)])
        have t2 : (1000000000 % wd == 0) = false := by simpa using hw2
        have t4 : (1000000000 % wd != 0) = true := by simpa using hw2
        clear hok hc
        go_enter Tryd.func17, Tryd.ntmps17
        go_wp2_with fail
        rw [← hW0]
        refine HCK.out.mono ?_
        rintro e w1 ⟨rfl, hb1⟩
        have k1 := HBX.out w1 hb1
        go_wp2
        go_ret2
        exact ⟨none, 0, by rw [HFC.out, HFL.out]; rfl, by rw [HFL.out]; exact Rd.nil, below_next HB0.out hb1⟩
      · have hw2' : 1000000000 % wd = 0 := by omega
        have t2 : (1000000000 % wd == 0) = true := by simpa using hw2'
        have t4 : (1000000000 % wd != 0) = false := by simpa using hw2'
        have HBADN := Lib.hid (show ¬ (wd < 1 ∨ 1000000000 % wd ≠ 0) by omega)
        obtain ⟨q, hq⟩ : ∃ q, q = 1000000000 / wd := ⟨_, rfl⟩
        have hq0 : 0 ≤ q := by rw [hq]; exact Int.ediv_nonneg (by omega) (by omega)
        have hq1 : q ≤ 1000000000 := by rw [hq]; exact Int.ediv_le_self _ (by omega)
        have HQ := Lib.hid hq
        have HC := Lib.hid hc
        have HCEL := Lib.hid (fun (t : Int) (W : World) (hW : Below W0.heap.size W0 W) (h0 : 0 ≤ t) (h1 : t ≤ 1000000000000) => fitCell_any t wd w.heap.size W (HBX.out W hW) h0 h1 (by omega))
        have HCLT := Lib.hid (fun k t (ht : ts[k]? = some t) => cell_lt (wd := wd) HOK.out (by omega) ht)
        obtain ⟨N, hN⟩ : ∃ N, N = stepsT ts wd := ⟨_, rfl⟩
        rw [← hN] at HCLT
        have HN := Lib.hid hN.symm
        clear hok hc hw2 hw2' hq
        go_enter Tryd.func17, Tryd.ntmps17
        go_wp2_with fail
        rw [← hW0]
        refine HCK.out.mono ?_
        rintro e w1 ⟨rfl, hb1⟩
        have k1 := HBX.out w1 hb1
        have HB01 := Lib.hid hb1
        have HB1 := Lib.hid (below_next HB0.out hb1)
        have HR1 := Lib.hid (HR.out.below hb1 (Nat.le_refl _))
        have hs1 := hb1.size
        clear hb1
        by_cases hemp : ts.length = 0
        · have tE : decide (0 < (ts.length : Int)) = false := by simp; exact List.eq_nil_of_length_eq_zero hemp
          have tE' : decide (0 < ts.length) = false := by simp; exact List.eq_nil_of_length_eq_zero hemp
          obtain rfl : N = 1 := by rw [hN, List.eq_nil_of_length_eq_zero hemp]; rfl
          clear hN hemp
          by_cases hbig : 50 < 1
          · exact absurd hbig (by omega)
          · have u1 : decide (50 < (1 : Int)) = false := by first | decide | (simp; omega)
            have u2 : decide (50 < 1) = false := by first | decide | simpa using hbig
            go_wp2_with (at_make; refine wpList_make_full _ rfl (.tmp 43) (.tmp 43) 28 rfl w1.heap.size 3 i0 _ 1 Tryd.underlying28 hi0 hz0 hz1 .i64 .i64 _ _ 1 rfl rfl ?m1 ?m2 ?m3 ?m4 ?m5 ?_)
            case m1 => rfl
            case m2 => rfl
            case m3 => rw [hz2]; omega
            case m4 => unfold maxLen; omega
            case m5 => exact Nat.le_refl _
            intro w2 hown hgr
            rw [made_zeros4, ← cnts_zero ts wd 1] at hown
            obtain ⟨hblk, _⟩ := Blk4.of_own hown
            have hb2 : Below w1.heap.size w1 w2 := (Below.refl _ w1).grown hgr (Nat.le_refl _) (fun k hk => by cases hk)
            have HBK := Lib.hid hblk
            have HB2 := Lib.hid hb2
            clear hown hgr hblk hb2
            go_wp2_with fail
            go_loopw [11, 47] (fun _ iv wr => ∃ k : Nat, iv = .int .i64 k ∧ k ≤ ts.length ∧ Blk4 wr w1.heap.size (cnts ts wd 1 k) ∧ Below w1.heap.size w1 wr) (fun _ iv _ => ts.length - (intOf iv).toNat)
            case atStart => exact ⟨0, rfl, Nat.zero_le _, HBK.out, HB2.out⟩
            case round =>
              obtain ⟨k, rfl, hk, hblk, hbw⟩ := hrel
              have HBLK := Lib.hid hblk
              have HBW := Lib.hid hbw
              have hlw := heap_lt hblk
              by_cases hlt : k < ts.length
              · obtain ⟨b, o, u, hA, hb, hu, qk⟩ := (HR1.out.below hbw (by omega)).at1 hlt
                obtain ⟨t, ht, rfl⟩ := ints_get hu
                first | subst hA | (simp only [Option.some.injEq, Addr.mk.injEq, and_true] at hA; obtain ⟨rfl, rfl⟩ := hA)
                have hrt := HOK.out.range ht
                obtain ⟨ci, hci, hcN⟩ := HCLT.out k t ht
                have HCE := Lib.hid (HCEL.out t wr (below_next HB01.out hbw) hrt.1 hrt.2)
                rw [hci] at HCE
                have HST := Lib.hid (cnts_step (M := 1) ht hci)
                have hg := cnts_get (ts := ts) (wd := wd) (k := k) hcN
                have hml := cntT_le (ts.take k) wd ci
                rw [List.length_take] at hml
                obtain ⟨m, hm⟩ : ∃ m, m = cntT (ts.take k) wd ci := ⟨_, rfl⟩
                rw [← hm] at hg HST hml
                have p1 := hblk.cell hg
                have p2 := hblk.frozen ci
                have p3 : (ci : Int) < ((1 : Nat) : Int) := by omega
                have p4 : (0 : Int) ≤ (ci : Int) := by omega
                have hN : Blk4 (wr.setCell ⟨w1.heap.size, ci, none⟩ (.int .i64 ((m : Int) + 1))) w1.heap.size (cnts ts wd 1 (k + 1)) := by
                  rw [HST.out]; exact hblk.set ci (m + 1)
                have HN5 := Lib.hid hN
                clear hblk hbw hu ht hci hm hg hN
                go_wp2_with fail
                refine HCE.out.mono ?_
                rintro e w5 ⟨rfl, rfl⟩
                go_wp2
                go_roundw
                case rel => exact ⟨k + 1, by go_num, by omega, HN5.out, HBW.out.setCell (Nat.le_refl _) _⟩
                case measure => simp [intOf]; omega
              · obtain rfl : k = ts.length := by omega
                obtain ⟨wL, hwL⟩ : ∃ z : World, z = wr := ⟨_, rfl⟩
                subst hwL
                have HBL := Lib.hid (below_next HB1.out hbw)
                have HB0L := Lib.hid (below_next HB01.out hbw)
                clear hlt hblk hbw
                go_wp2_with fail
                go_loopw [12, 14, 15, 62] (fun ov _ _ iv wz => ∃ k : Nat, iv = .int .i64 k ∧ k ≤ 1 ∧ wz.ownsRow wL.heap.size 66 3 ov k (cells3 (fitS ts wd k)) ∧ Below wL.heap.size wL wz) (fun _ _ _ iv _ => 1 - (intOf iv).toNat)
                case atStart => exact ⟨0, rfl, Nat.zero_le _, ⟨by simp [fitS, cells3], .inl ⟨rfl, rfl⟩⟩, Below.refl _ _⟩
                case round =>
                  obtain ⟨k, rfl, hk, hown, hbw⟩ := hrel
                  have hsz := hbw.size
                  have HOW := Lib.hid hown
                  have HBW2 := Lib.hid hbw
                  have k2 := HBX.out wr (below_next HB0L.out hbw)
                  by_cases hlt : k < 1
                  · have hg := cnts_get (ts := ts) (wd := wd) (k := ts.length) hlt
                    rw [List.take_of_length_le (Nat.le_refl _)] at hg
                    have hmj := cntT_le ts wd k
                    have HES := Lib.hid (show cells3 (fitS ts wd (k + 1)) = cells3 (fitS ts wd k) ++ [.int .i64 wd, .int .i64 ((cntT ts wd k : Int) * q), .int .i64 ((cntT ts wd k : Int) * q)] by rw [fitS_snoc, cells3_end, HQ.out])
                    obtain ⟨m, hm⟩ : ∃ m, m = cntT ts wd k := ⟨_, rfl⟩
                    rw [← hm] at HES hmj hg
                    have pk : wr.cell? ⟨w1.heap.size, k, none⟩ = some (.int .i64 m) := (hbw.cell (p := ⟨w1.heap.size, k, none⟩) hlw).trans (HBLK.out.cell hg)
                    obtain ⟨rt, hrt⟩ : ∃ rt, rt = (m : Int) * q := ⟨_, rfl⟩
                    have hrt0 : 0 ≤ rt := by rw [hrt]; exact Int.mul_nonneg (by omega) hq0
                    have hrt1 : rt ≤ 20000000000000 := by
                      have h1 : (m : Int) * q ≤ 20000 * q := Int.mul_le_mul_of_nonneg_right (by omega) hq0
                      omega
                    have hqd : 1000000000 / wd = q := HQ.out.symm
                    have hwr : IntKind.i64.wrap ((m : Int) * q) = rt := by rw [← hrt]; exact IntWalk.i64_in _ (by omega)
                    have hmr : (m : Int) * q = rt := hrt.symm
                    rw [← hrt] at HES
                    clear hm hrt hown hbw hg
                    go_wp2_with (at_builtin; refine wpList_append_own _ rfl (.tmp 70) (.tmp 75) 22 rfl wL.heap.size 66 ii _ 3 24 Tryd.underlying22 hii hiz0 hiz1 hiz2 rfl (by decide) _ k (cells3 (fitS ts wd k)) rfl (HOW.out.alloc _) ⟨wr.heap.size, 0, none⟩ 1 1 [.int .i64 wd, .int .i64 rt, .int .i64 rt] rfl rfl (cell_three_new _ _ _ _ _) (by simp [Value.oneCell']) (by unfold maxLen; omega) (by omega) (by simp; omega) ?_)
                    intro v' w6 hown6 hgr6 _
                    have HB6 := Lib.hid (show Below wL.heap.size wL w6 from (HBW2.out.alloc hsz _).trans ((Fr.of_grown hgr6).below (B := wL.heap.size) (by simp; omega) (fun i hi hm => by have := (ownsRow_block HOW.out hm).1; omega)))
                    have HO6 := Lib.hid (show w6.ownsRow wL.heap.size 66 3 v' (k + 1) (cells3 (fitS ts wd (k + 1))) by rw [HES.out]; exact hown6)
                    clear hgr6 hqd hwr hmr HES hown6
                    go_wp2
                    go_roundw
                    case rel => exact ⟨k + 1, by go_num, by omega, HO6.out, HB6.out⟩
                    case measure => simp [intOf]; omega
                  · obtain rfl : 1 = k := by omega
                    obtain ⟨Ao, co, rfl, hco, _, _⟩ := ownsRow_shape hown
                    have hrd := (Rd.of_own hown).more (Nat.zero_le _) (Nat.le_refl _)
                    have hlen : (fitS ts wd 1).length = 1 := fitS_length ts wd 1
                    have HCH := Lib.hid (checked_any Ao co (fitS ts wd 1) wr (by rw [hlen]; exact hrd) (by rw [hlen]; omega) (by rw [hlen]; exact hco))
                    have hfd := fit_done HC.out HBADN.out HN.out
                    rw [hlen, ← hfd.2, ← hfd.1] at HCH
                    have HBE := Lib.hid (below_next HBL.out hbw)
                    clear hown hbw hrd hlen hfd k2
                    go_wp2_with fail
                    refine HCH.out.mono ?_
                    rintro e w8 ⟨A8, c8, rfl, hr8, hb8⟩
                    have HR8 := Lib.hid hr8
                    have HB8 := Lib.hid (below_next HBE.out hb8)
                    clear hr8 hb8
                    go_wp2
                    go_ret2
                    exact ⟨A8, c8, rfl, HR8.out, HB8.out⟩
        · obtain ⟨tl, htl, hll⟩ := lastT_take HOK.out (ts.length - 1) (by omega)
          rw [Nat.sub_add_cancel (by omega), List.take_of_length_le (Nat.le_refl _)] at hll
          have hrl := HOK.out.range htl
          have hcn := cell_nn (wd := wd) (t := tl) (by omega)
          have hch := cell_hi (wd := wd) (t := tl) (by omega) hrl.1 hrl.2
          have hN1 : (N : Int) = cellT wd tl + 1 := by rw [hN, lastT_last HOK.out, hll]; omega
          have tE : decide (0 < (ts.length : Int)) = true := by simp; omega
          have tE' : decide (0 < ts.length) = true := by simp; omega
          have hix : (ts.length : Int) - 1 = ((ts.length - 1 : Nat) : Int) := by omega
          obtain ⟨bl, ol, ul, hAl, hbl, hul, ql⟩ := HR1.out.at1 (show ts.length - 1 < ts.length by omega)
          obtain ⟨tl', htl', rfl⟩ := ints_get hul
          obtain rfl : tl' = tl := by rw [htl] at htl'; exact (Option.some.inj htl').symm
          have HLC := Lib.hid (HCEL.out tl' w1 HB01.out hrl.1 hrl.2)
          obtain ⟨cl, hcl⟩ : ∃ cl, cl = cellT wd tl' := ⟨_, rfl⟩
          rw [← hcl] at HLC hN1 hcn hch
          have hN2 : cl + 1 = (N : Int) := hN1.symm
          subst hAl
          clear hN hul htl htl' hll hcl hN1
          go_wp2_with fail
          refine HLC.out.mono ?_
          rintro e wq ⟨rfl, rfl⟩
          by_cases hbig : 50 < N
          · have HFC := Lib.hid (show fitC ts wd = 3 by rw [fitC_ok HC.out HBADN.out, HN.out, if_pos hbig])
            have HFL := Lib.hid (show fitL ts wd = [] by unfold fitL; rw [HFC.out, if_neg (by omega)])
            have u1 : decide (50 < (N : Int)) = true := by simp; omega
            have u2 : decide (50 < N) = true := by simpa using hbig
            go_wp2
            go_ret2
            exact ⟨none, 0, by rw [HFC.out, HFL.out]; rfl, by rw [HFL.out]; exact Rd.nil, HB1.out⟩
          · have u1 : decide (50 < (N : Int)) = false := by first | decide | (simp; omega)
            have u2 : decide (50 < N) = false := by first | decide | simpa using hbig
            go_wp2_with (at_make; refine wpList_make_full _ rfl (.tmp 43) (.tmp 43) 28 rfl w1.heap.size 3 i0 _ 1 Tryd.underlying28 hi0 hz0 hz1 .i64 .i64 _ _ N rfl rfl ?m1 ?m2 ?m3 ?m4 ?m5 ?_)
            case m1 => rfl
            case m2 => rfl
            case m3 => rw [hz2]; omega
            case m4 => unfold maxLen; omega
            case m5 => exact Nat.le_refl _
            intro w2 hown hgr
            rw [made_zeros4, ← cnts_zero ts wd N] at hown
            obtain ⟨hblk, _⟩ := Blk4.of_own hown
            have hb2 : Below w1.heap.size w1 w2 := (Below.refl _ w1).grown hgr (Nat.le_refl _) (fun k hk => by cases hk)
            have HBK := Lib.hid hblk
            have HB2 := Lib.hid hb2
            clear hown hgr hblk hb2
            go_wp2_with fail
            go_loopw [11, 47] (fun _ iv wr => ∃ k : Nat, iv = .int .i64 k ∧ k ≤ ts.length ∧ Blk4 wr w1.heap.size (cnts ts wd N k) ∧ Below w1.heap.size w1 wr) (fun _ iv _ => ts.length - (intOf iv).toNat)
            case atStart => exact ⟨0, rfl, Nat.zero_le _, HBK.out, HB2.out⟩
            case round =>
              obtain ⟨k, rfl, hk, hblk, hbw⟩ := hrel
              have HBLK := Lib.hid hblk
              have HBW := Lib.hid hbw
              have hlw := heap_lt hblk
              by_cases hlt : k < ts.length
              · obtain ⟨b, o, u, hA, hb, hu, qk⟩ := (HR1.out.below hbw (by omega)).at1 hlt
                obtain ⟨t, ht, rfl⟩ := ints_get hu
                first | subst hA | (simp only [Option.some.injEq, Addr.mk.injEq, and_true] at hA; obtain ⟨rfl, rfl⟩ := hA)
                have hrt := HOK.out.range ht
                obtain ⟨ci, hci, hcN⟩ := HCLT.out k t ht
                have HCE := Lib.hid (HCEL.out t wr (below_next HB01.out hbw) hrt.1 hrt.2)
                rw [hci] at HCE
                have HST := Lib.hid (cnts_step (M := N) ht hci)
                have hg := cnts_get (ts := ts) (wd := wd) (k := k) hcN
                have hml := cntT_le (ts.take k) wd ci
                rw [List.length_take] at hml
                obtain ⟨m, hm⟩ : ∃ m, m = cntT (ts.take k) wd ci := ⟨_, rfl⟩
                rw [← hm] at hg HST hml
                have p1 := hblk.cell hg
                have p2 := hblk.frozen ci
                have p3 : (ci : Int) < ((N : Nat) : Int) := by omega
                have p4 : (0 : Int) ≤ (ci : Int) := by omega
                have hN : Blk4 (wr.setCell ⟨w1.heap.size, ci, none⟩ (.int .i64 ((m : Int) + 1))) w1.heap.size (cnts ts wd N (k + 1)) := by
                  rw [HST.out]; exact hblk.set ci (m + 1)
                have HN5 := Lib.hid hN
                clear hblk hbw hu ht hci hm hg hN
                go_wp2_with fail
                refine HCE.out.mono ?_
                rintro e w5 ⟨rfl, rfl⟩
                go_wp2
                go_roundw
                case rel => exact ⟨k + 1, by go_num, by omega, HN5.out, HBW.out.setCell (Nat.le_refl _) _⟩
                case measure => simp [intOf]; omega
              · obtain rfl : k = ts.length := by omega
                obtain ⟨wL, hwL⟩ : ∃ z : World, z = wr := ⟨_, rfl⟩
                subst hwL
                have HBL := Lib.hid (below_next HB1.out hbw)
                have HB0L := Lib.hid (below_next HB01.out hbw)
                clear hlt hblk hbw
                go_wp2_with fail
                go_loopw [12, 14, 15, 62] (fun ov _ _ iv wz => ∃ k : Nat, iv = .int .i64 k ∧ k ≤ N ∧ wz.ownsRow wL.heap.size 66 3 ov k (cells3 (fitS ts wd k)) ∧ Below wL.heap.size wL wz) (fun _ _ _ iv _ => N - (intOf iv).toNat)
                case atStart => exact ⟨0, rfl, Nat.zero_le _, ⟨by simp [fitS, cells3], .inl ⟨rfl, rfl⟩⟩, Below.refl _ _⟩
                case round =>
                  obtain ⟨k, rfl, hk, hown, hbw⟩ := hrel
                  have hsz := hbw.size
                  have HOW := Lib.hid hown
                  have HBW2 := Lib.hid hbw
                  have k2 := HBX.out wr (below_next HB0L.out hbw)
                  by_cases hlt : k < N
                  · have hg := cnts_get (ts := ts) (wd := wd) (k := ts.length) hlt
                    rw [List.take_of_length_le (Nat.le_refl _)] at hg
                    have hmj := cntT_le ts wd k
                    have HES := Lib.hid (show cells3 (fitS ts wd (k + 1)) = cells3 (fitS ts wd k) ++ [.int .i64 wd, .int .i64 ((cntT ts wd k : Int) * q), .int .i64 ((cntT ts wd k : Int) * q)] by rw [fitS_snoc, cells3_end, HQ.out])
                    obtain ⟨m, hm⟩ : ∃ m, m = cntT ts wd k := ⟨_, rfl⟩
                    rw [← hm] at HES hmj hg
                    have pk : wr.cell? ⟨w1.heap.size, k, none⟩ = some (.int .i64 m) := (hbw.cell (p := ⟨w1.heap.size, k, none⟩) hlw).trans (HBLK.out.cell hg)
                    obtain ⟨rt, hrt⟩ : ∃ rt, rt = (m : Int) * q := ⟨_, rfl⟩
                    have hrt0 : 0 ≤ rt := by rw [hrt]; exact Int.mul_nonneg (by omega) hq0
                    have hrt1 : rt ≤ 20000000000000 := by
                      have h1 : (m : Int) * q ≤ 20000 * q := Int.mul_le_mul_of_nonneg_right (by omega) hq0
                      omega
                    have hqd : 1000000000 / wd = q := HQ.out.symm
                    have hwr : IntKind.i64.wrap ((m : Int) * q) = rt := by rw [← hrt]; exact IntWalk.i64_in _ (by omega)
                    have hmr : (m : Int) * q = rt := hrt.symm
                    rw [← hrt] at HES
                    clear hm hrt hown hbw hg
                    go_wp2_with (at_builtin; refine wpList_append_own _ rfl (.tmp 70) (.tmp 75) 22 rfl wL.heap.size 66 ii _ 3 24 Tryd.underlying22 hii hiz0 hiz1 hiz2 rfl (by decide) _ k (cells3 (fitS ts wd k)) rfl (HOW.out.alloc _) ⟨wr.heap.size, 0, none⟩ 1 1 [.int .i64 wd, .int .i64 rt, .int .i64 rt] rfl rfl (cell_three_new _ _ _ _ _) (by simp [Value.oneCell']) (by unfold maxLen; omega) (by omega) (by simp; omega) ?_)
                    intro v' w6 hown6 hgr6 _
                    have HB6 := Lib.hid (show Below wL.heap.size wL w6 from (HBW2.out.alloc hsz _).trans ((Fr.of_grown hgr6).below (B := wL.heap.size) (by simp; omega) (fun i hi hm => by have := (ownsRow_block HOW.out hm).1; omega)))
                    have HO6 := Lib.hid (show w6.ownsRow wL.heap.size 66 3 v' (k + 1) (cells3 (fitS ts wd (k + 1))) by rw [HES.out]; exact hown6)
                    clear hgr6 hqd hwr hmr HES hown6
                    go_wp2
                    go_roundw
                    case rel => exact ⟨k + 1, by go_num, by omega, HO6.out, HB6.out⟩
                    case measure => simp [intOf]; omega
                  · obtain rfl : N = k := by omega
                    obtain ⟨Ao, co, rfl, hco, _, _⟩ := ownsRow_shape hown
                    have hrd := (Rd.of_own hown).more (Nat.zero_le _) (Nat.le_refl _)
                    have hlen : (fitS ts wd N).length = N := fitS_length ts wd N
                    have HCH := Lib.hid (checked_any Ao co (fitS ts wd N) wr (by rw [hlen]; exact hrd) (by rw [hlen]; omega) (by rw [hlen]; exact hco))
                    have hfd := fit_done HC.out HBADN.out HN.out
                    rw [hlen, ← hfd.2, ← hfd.1] at HCH
                    have HBE := Lib.hid (below_next HBL.out hbw)
                    clear hown hbw hrd hlen hfd k2
                    go_wp2_with fail
                    refine HCH.out.mono ?_
                    rintro e w8 ⟨A8, c8, rfl, hr8, hb8⟩
                    have HR8 := Lib.hid hr8
                    have HB8 := Lib.hid (below_next HBE.out hb8)
                    clear hr8 hb8
                    go_wp2
                    go_ret2
                    exact ⟨A8, c8, rfl, HR8.out, HB8.out⟩
  · have HFC := Lib.hid (show fitC ts wd = codeT ts by unfold fitC; rw [if_pos hc])
    have HFL := Lib.hid (show fitL ts wd = [] by unfold fitL; rw [HFC.out, if_neg hc])
    obtain ⟨cc, hcc⟩ : ∃ cc, cc = codeT ts := ⟨_, rfl⟩
    rw [← hcc] at HCK HFC hc
    have t1 : (cc != 0) = true := by simpa using hc
    clear hcc
    go_enter Tryd.func17, Tryd.ntmps17
    go_wp2_with fail
    rw [← hW0]
    refine HCK.out.mono ?_
    rintro e w1 ⟨rfl, hb1⟩
    go_wp2
    go_ret2
    exact ⟨none, 0, by rw [HFC.out, HFL.out]; rfl, by rw [HFL.out]; exact Rd.nil, below_next HB0.out hb1⟩
end Go.Proofs.YtkoodmoilfgafaaDoor
