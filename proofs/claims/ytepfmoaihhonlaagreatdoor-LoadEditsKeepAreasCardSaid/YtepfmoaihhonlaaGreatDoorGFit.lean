import Derived.Test.YtepfmoaihhonlaaGreatDoorGPlain
import Derived.Test.YtepfmoaihhonlaaGreatDoorGLoad
import Derived.Test.YtepfmoaihhonlaaGreatDoorGArr
import Derived.Maps.AppendAt
import Derived.Test.YtepfmoaihhonlaaGreatDoorGRa
/- Package load: lists of times: checkTimes. -/
namespace Go.Proofs.YtepfmoaihhonlaaGreatDoor
open Go Go.RowKit Go.Proofs

theorem getD_some {zs : List Int} {i : Nat} {z : Int} (h : zs[i]? = some z) : zs.getD i 0 = z := by rw [List.getD_eq_getElem?_getD, h]; rfl
end Go.Proofs.YtepfmoaihhonlaaGreatDoor

/- Package dynamometerref7: timesFault. -/
namespace Go.Proofs.YtepfmoaihhonlaaGreatDoor
open Go Go.RowKit Go.Proofs

end Go.Proofs.YtepfmoaihhonlaaGreatDoor

/- Fit, in plain Lean: the counts of the steps, the line, and the arrivals of the line in each step. -/
namespace Go.Proofs.YtepfmoaihhonlaaGreatDoor

/-- the step of a time -/
def cellT (w t : Int) : Int := max 0 (t - 1) / w
/-- how many times are in a step -/
def cntT (ts : List Int) (w : Int) (i : Nat) : Nat := (ts.filter fun t => decide (cellT w t = i)).length
theorem cntT_snoc (ts : List Int) (t w : Int) (i : Nat) : cntT (ts ++ [t]) w i = cntT ts w i + if cellT w t = i then 1 else 0 := by
  unfold cntT
  rw [List.filter_append, List.length_append]
  congr 1
  by_cases h : cellT w t = i
  · rw [if_pos h, List.filter_cons_of_pos (by simpa using h)]; rfl
  · rw [if_neg h, List.filter_cons_of_neg (by simpa using h)]; rfl
theorem cntT_le (ts : List Int) (w : Int) (i : Nat) : cntT ts w i ≤ ts.length := List.length_filter_le _ _
theorem cellT_eq {w t : Int} {i : Nat} (hw : 1 ≤ w) (ht : 0 ≤ t) : cellT w t = i ↔ (i * w < t ∧ t ≤ i * w + w) ∨ (i = 0 ∧ t = 0) := by
  unfold cellT
  have e : ∀ q : Int, max 0 (t - 1) / w = q ↔ q * w ≤ max 0 (t - 1) ∧ max 0 (t - 1) < q * w + w := by
    intro q
    have h1 := Int.mul_ediv_add_emod (max 0 (t - 1)) w
    have h2 := Int.emod_nonneg (max 0 (t - 1)) (show w ≠ 0 by omega)
    have h3 := Int.emod_lt_of_pos (max 0 (t - 1)) (show 0 < w by omega)
    constructor
    · intro h; rw [h] at h1; rw [Int.mul_comm] at h1; omega
    · rintro ⟨g1, g2⟩
      have a1 : q ≤ max 0 (t - 1) / w := (Int.le_ediv_iff_mul_le (by omega)).2 g1
      have a2 : max 0 (t - 1) / w < q + 1 := (Int.ediv_lt_iff_lt_mul (by omega)).2 (by rw [Int.add_mul]; omega)
      omega
  rw [e]
  rcases Nat.eq_zero_or_pos i with rfl | hi
  · simp; omega
  · have : w ≤ (i : Int) * w := by
      have := Int.mul_le_mul_of_nonneg_right (show (1 : Int) ≤ i by omega) (show 0 ≤ w by omega)
      omega
    omega
/-- how many steps there are -/
def stepsT (ts : List Int) (w : Int) : Nat := match ts.getLast? with
  | none => 1
  | some t => (cellT w t).toNat + 1
def fitS (ts : List Int) (w : Int) (n : Nat) : List (Int × Int × Int) := (List.range n).map fun i => (w, (cntT ts w i : Int) * (1000000000 / w), (cntT ts w i : Int) * (1000000000 / w))
theorem fitS_length (ts : List Int) (w : Int) (n : Nat) : (fitS ts w n).length = n := by simp [fitS]
theorem fitS_snoc (ts : List Int) (w : Int) (n : Nat) : fitS ts w (n + 1) = fitS ts w n ++ [(w, (cntT ts w n : Int) * (1000000000 / w), (cntT ts w n : Int) * (1000000000 / w))] := by simp [fitS, List.range_succ]
theorem fitS_get {ts : List Int} {w : Int} {n i : Nat} (h : i < n) : (fitS ts w n)[i]? = some (w, (cntT ts w i : Int) * (1000000000 / w), (cntT ts w i : Int) * (1000000000 / w)) := by
  unfold fitS; rw [List.getElem?_map, List.getElem?_range h]; rfl
/-- what Fit returns -/
def fitC (ts : List Int) (w : Int) : Int := if codeT ts ≠ 0 then codeT ts else if w < 1 ∨ 1000000000 % w ≠ 0 then 1 else if 50 < stepsT ts w then 3 else codeS (fitS ts w (stepsT ts w))
def fitL (ts : List Int) (w : Int) : List (Int × Int × Int) := if fitC ts w = 0 then fitS ts w (stepsT ts w) else []

theorem upto_whole {ah : Nat} {s : Stg} {x S : Nat} (hF : 0 < s.F) (h : s.num ah x = S * s.den) : upto (ah, s, x) = S := by
  unfold upto
  simp only
  rw [h]
  have hd : 0 < s.den := by unfold Stg.den; omega
  rw [show S * s.den * 2 + s.den = s.den + s.den * 2 * S by rw [Nat.mul_comm (s.den * 2), ← Nat.mul_assoc, Nat.mul_right_comm, Nat.add_comm]]
  rw [Nat.add_mul_div_left _ _ (by omega), Nat.div_eq_of_lt (by omega), Nat.zero_add]
/-- at the border of steps the arrivals are those of the steps before it -/
theorem upto_steps (F : Nat) (hF : 0 < F) : ∀ (l : List Stg) (cs : List Nat) (ah i : Nat), l.length = cs.length → (∀ (j : Nat) s c, l[j]? = some s → cs[j]? = some c → s.F = F ∧ s.a = s.b ∧ s.parts = 2000000000 * c) → l ≠ [] → i ≤ l.length → ∀ S0, ah = 2000000000 * S0 → upto (loc ah l (i * F)) = S0 + (cs.take i).sum
  | [], _, _, _, _, _, h, _, _, _ => absurd rfl h
  | [s], [c], ah, i, _, hp, _, hi, S0, hS => by
    obtain ⟨h1, h2, h3⟩ := hp 0 s c rfl rfl
    have hi' : i = 0 ∨ i = 1 := by simp at hi; omega
    unfold loc
    rcases hi' with rfl | rfl
    · simp only [Nat.zero_mul, Nat.zero_min, List.take_zero, List.sum_nil, Nat.add_zero]
      refine upto_whole (by omega) ?_
      unfold Stg.num Stg.den
      rw [if_pos (by omega), hS]
      simp only [Nat.mul_zero, Nat.add_zero]
      rw [Nat.mul_comm (2 * s.F), ← Nat.mul_assoc, ← Nat.mul_assoc, Nat.mul_comm S0]
      rw [show 1000000000 * S0 * 2 = 2000000000 * S0 by omega]
    · simp only [Nat.one_mul]
      rw [show min F s.F = s.F by omega]
      rw [show (List.take 1 [c]).sum = c by simp]
      refine upto_whole (by omega) ?_
      rw [num_end, h3, hS]
      unfold Stg.den
      rw [← Nat.mul_add, Nat.mul_comm 2000000000, Nat.mul_assoc]
      congr 1
      omega
  | s :: s' :: r, c :: c' :: cr, ah, i, hl, hp, _, hi, S0, hS => by
    obtain ⟨h1, h2, h3⟩ := hp 0 s c rfl rfl
    unfold loc
    rcases i with _ | i
    · rw [Nat.zero_mul, if_pos (by omega)]
      simp only [List.take_zero, List.sum_nil, Nat.add_zero]
      refine upto_whole (by omega) ?_
      unfold Stg.num Stg.den
      rw [if_pos (by omega), hS]
      simp only [Nat.mul_zero, Nat.add_zero]
      rw [Nat.mul_comm (2 * s.F), ← Nat.mul_assoc, ← Nat.mul_assoc, Nat.mul_comm S0]
      rw [show 1000000000 * S0 * 2 = 2000000000 * S0 by omega]
    · have hge : ¬ (i + 1) * F < s.F := by rw [Nat.add_mul]; omega
      rw [if_neg hge, show (i + 1) * F - s.F = i * F by rw [Nat.add_mul]; omega]
      rw [upto_steps F hF (s' :: r) (c' :: cr) (ah + s.parts) i (by simpa using hl) (fun j x y hx hy => hp (j + 1) x y (by simpa using hx) (by simpa using hy)) (by simp) (by simpa using hi) (S0 + c) (by rw [hS, h3]; omega)]
      simp only [List.take_succ_cons, List.sum_cons]
      omega
  | [_], [], _, _, hl, _, _, _, _, _ => by simp at hl
  | [_], _ :: _ :: _, _, _, hl, _, _, _, _, _ => by simp at hl
  | _ :: _ :: _, [], _, _, hl, _, _, _, _, _ => by simp at hl
  | _ :: _ :: _, [_], _, _, hl, _, _, _, _, _ => by simp at hl
theorem fit_bef {ts : List Int} {w : Nat} {n i : Nat} (hw : 1 ≤ w) (hdv : 1000000000 % w = 0) (hn : 0 < n) (hi : i ≤ n) : befN (fitS ts w n) (i * w + 1) = ((List.range i).map (cntT ts w)).sum := by
  unfold befN
  rw [if_neg (by omega), Nat.add_sub_cancel]
  have e : ((List.range n).map (cntT ts w)).take i = (List.range i).map (cntT ts w) := by
    rw [← List.map_take, List.take_range, Nat.min_eq_left hi]
  have := upto_steps w (by omega) (stgs (fitS ts w n)) ((List.range n).map (cntT ts w)) 0 i (by simp [stgs, fitS]) (fun j s c hs hc => ?_) (by
    intro h
    have : (stgs (fitS ts w n)).length = n := by simp [stgs, fitS]
    rw [h] at this; simp at this; omega) (by simp [stgs, fitS]; omega) 0 (by omega)
  · rw [e, Nat.zero_add] at this
    exact this
  · unfold stgs at hs
    rw [List.getElem?_map] at hs hc
    by_cases hj : j < n
    · rw [fitS_get hj] at hs
      rw [List.getElem?_range hj] at hc
      simp only [Option.map_some, Option.some.injEq] at hs hc
      subst hs hc
      refine ⟨by simp [toStg], rfl, ?_⟩
      unfold Stg.parts toStg
      simp only
      have hdi : ((1000000000 : Int) / (w : Int)) = ((1000000000 / w : Nat) : Int) := by simp
      have h2 : w * (1000000000 / w) = 1000000000 := by
        have := Nat.div_add_mod 1000000000 w
        omega
      rw [hdi]
      have h3 : ((cntT ts (w : Int) j : Int) * ((1000000000 / w : Nat) : Int)).toNat = cntT ts w j * (1000000000 / w) := by
        rw [← Int.natCast_mul]; rfl
      rw [h3, Int.toNat_natCast, Nat.add_mul, Nat.mul_assoc, Nat.mul_comm (1000000000 / w), h2]
      omega
    · rw [List.getElem?_eq_none (by simp; omega)] at hc
      cases hc
end Go.Proofs.YtepfmoaihhonlaaGreatDoor

/- Package dynamometerref7: Fit. -/
namespace Go.Proofs.YtepfmoaihhonlaaGreatDoor
open Go Go.RowKit Go.Proofs

theorem infoStg : (Tryz.prog.info? 86).map (fun i => (i.zero, i.size, i.bytes)) = some (some (.agg #[.int .i64 0, .int .i64 0, .int .i64 0]), 3, 24) := by kernel_rfl
theorem cell_three_new (w : World) (x y z : Value) (t : TypeId) : ∀ j u, [x, y, z][j]? = some u → (w.alloc (.cells #[x, y, z] t)).cell? ((⟨w.heap.size, 0, none⟩ : Addr).add j) = some u := by
  intro j u hj
  match j, hj with
  | 0, hj => simp at hj; subst hj; simp [Addr.add]
  | 1, hj => simp at hj; subst hj; simp [Addr.add]
  | 2, hj => simp at hj; subst hj; simp [Addr.add]
theorem cells3_end : ∀ (l : List (Int × Int × Int)) (s : Int × Int × Int), cells3 (l ++ [s]) = cells3 l ++ [.int .i64 s.1, .int .i64 s.2.1, .int .i64 s.2.2]
  | [], _ => rfl
  | x :: r, s => by rw [List.cons_append, cells3, cells3_end r]; rfl
/-- the greatest time, 0 at least -/
def lastT (ts : List Int) : Int := ts.foldl max 0
theorem lastT_snoc (ts : List Int) (t : Int) : lastT (ts ++ [t]) = max (lastT ts) t := by simp [lastT, List.foldl_append]
theorem okT_mono {ts : List Int} (h : OkT ts) : ∀ (i j : Nat) (s t : Int), i ≤ j → ts[i]? = some s → ts[j]? = some t → s ≤ t := by
  intro i j
  induction j with
  | zero => intro s t hij hs ht; obtain rfl : i = 0 := by omega
            rw [hs] at ht; cases ht; omega
  | succ j ih =>
    intro s t hij hs ht
    rcases Nat.eq_or_lt_of_le hij with e | e
    · subst e; rw [hs] at ht; cases ht; omega
    · have hjl := (List.getElem?_eq_some_iff.1 ht).1
      obtain ⟨u, hu⟩ : ∃ u, ts[j]? = some u := ⟨ts[j]'(by omega), List.getElem?_eq_getElem (by omega)⟩
      have h1 := ih s u (by omega) hs hu
      have h2 := h.el (j + 1) hjl
      unfold elT at h2
      rw [Nat.add_sub_cancel, List.getD_eq_getElem?_getD, List.getD_eq_getElem?_getD, ht, hu] at h2
      simp only [Option.getD_some] at h2
      split at h2
      · omega
      · split at h2
        · omega
        · rename_i h3 h4
          have : ¬ t < u := fun h => h4 ⟨by omega, h⟩
          omega
theorem lastT_take {ts : List Int} (h : OkT ts) : ∀ k, k < ts.length → ∃ t, ts[k]? = some t ∧ lastT (ts.take (k + 1)) = t := by
  intro k
  induction k with
  | zero =>
    intro hk
    obtain ⟨u, hu⟩ : ∃ u, ts[0]? = some u := ⟨ts[0]'(by omega), List.getElem?_eq_getElem (by omega)⟩
    refine ⟨u, hu, ?_⟩
    have hr := h.range hu
    rw [List.take_add_one, hu]
    simp [lastT]; omega
  | succ k ih =>
    intro hk
    obtain ⟨t, ht, hl⟩ := ih (by omega)
    obtain ⟨u, hu⟩ : ∃ u, ts[k + 1]? = some u := ⟨ts[k + 1]'(by omega), List.getElem?_eq_getElem (by omega)⟩
    refine ⟨u, hu, ?_⟩
    have := okT_mono h k (k + 1) t u (by omega) ht hu
    rw [List.take_add_one, hu, Option.toList_some, lastT_snoc, hl]
    omega
theorem lastT_last {ts : List Int} {w : Int} (h : OkT ts) : stepsT ts w = (cellT w (lastT ts)).toNat + 1 := by
  unfold stepsT
  rcases Nat.eq_zero_or_pos ts.length with h0 | h0
  · have : ts = [] := List.eq_nil_of_length_eq_zero h0
    subst this
    have e : cellT w (lastT []) = 0 := by simp only [lastT, List.foldl_nil, cellT]; rw [show max (0 : Int) (0 - 1) = 0 by omega, Int.zero_ediv]
    rw [e]; rfl
  · obtain ⟨t, ht, hl⟩ := lastT_take h (ts.length - 1) (by omega)
    rw [Nat.sub_add_cancel h0, List.take_of_length_le (Nat.le_refl _)] at hl
    have : ts.getLast? = some t := by rw [List.getLast?_eq_getElem?]; exact ht
    rw [this, hl]
theorem lastT_range {ts : List Int} (h : OkT ts) : 0 ≤ lastT ts ∧ lastT ts ≤ 1000000000000 := by
  rcases Nat.eq_zero_or_pos ts.length with h0 | h0
  · have : ts = [] := List.eq_nil_of_length_eq_zero h0
    subst this
    simp [lastT]
  · obtain ⟨t, ht, hl⟩ := lastT_take h (ts.length - 1) (by omega)
    rw [Nat.sub_add_cancel h0, List.take_of_length_le (Nat.le_refl _)] at hl
    rw [hl]; exact h.range ht
/-- the last step -/
theorem steps_at {ts : List Int} {w : Int} {k : Nat} (h : OkT ts) (hw : 1 ≤ w) (hk : 0 < k) (h1 : k = 1 ∨ ((k - 1 : Nat) : Int) * w < lastT ts) (h2 : lastT ts ≤ (k : Int) * w) : stepsT ts w = k := by
  have hr := lastT_range h
  have e : cellT w (lastT ts) = ((k - 1 : Nat) : Int) := by
    rw [cellT_eq hw hr.1]
    have hm : (k : Int) * w = ((k - 1 : Nat) : Int) * w + w := by
      have : (k : Int) = ((k - 1 : Nat) : Int) + 1 := by omega
      conv => lhs; rw [this]
      rw [Int.add_mul, Int.one_mul]
    rcases h1 with rfl | h1
    · simp at h2 ⊢; omega
    · left; omega
  rw [lastT_last h, e]; omega
theorem steps_more {ts : List Int} {w : Int} {k : Nat} (h : OkT ts) (hw : 1 ≤ w) (h1 : (k : Int) * w < lastT ts) : k < stepsT ts w := by
  have hr := lastT_range h
  rw [lastT_last h]
  have : (k : Int) ≤ cellT w (lastT ts) := by
    unfold cellT
    rw [Int.le_ediv_iff_mul_le (by omega)]
    omega
  omega
theorem fitC_ok {ts : List Int} {w : Int} (hc : codeT ts = 0) (hw : ¬ (w < 1 ∨ 1000000000 % w ≠ 0)) : fitC ts w = if 50 < stepsT ts w then 3 else codeS (fitS ts w (stepsT ts w)) := by
  unfold fitC; rw [if_neg (by omega), if_neg hw]
theorem fit_done {ts : List Int} {w : Int} {k : Nat} (hc : codeT ts = 0) (hw : ¬ (w < 1 ∨ 1000000000 % w ≠ 0)) (hs : stepsT ts w = k) : fitC ts w = codeS (fitS ts w k) ∧ fitL ts w = if codeS (fitS ts w k) = 0 then fitS ts w k else [] := by
  have e : fitC ts w = codeS (fitS ts w k) := by
    rw [fitC_ok hc hw, hs]
    split
    · rename_i h
      unfold codeS
      rw [fitS_length, if_neg (by omega), if_pos h]
    · rfl
  exact ⟨e, by unfold fitL; rw [e, hs]⟩
theorem fit_many {ts : List Int} {w : Int} (hc : codeT ts = 0) (hw : ¬ (w < 1 ∨ 1000000000 % w ≠ 0)) (hs : 50 < stepsT ts w) : fitC ts w = 3 ∧ codeS (fitS ts w 51) = 3 ∧ fitL ts w = [] := by
  have e : fitC ts w = 3 := by rw [fitC_ok hc hw, if_pos hs]
  refine ⟨e, ?_, by unfold fitL; rw [e, if_neg (by omega)]⟩
  unfold codeS
  rw [fitS_length, if_neg (by omega), if_pos (by omega)]

end Go.Proofs.YtepfmoaihhonlaaGreatDoor

/- Package load: Fit. Printed by gen_fit.py. -/
namespace Go.Proofs.YtepfmoaihhonlaaGreatDoor
open Go Go.RowKit Go.Proofs

set_option maxHeartbeats 1000000 in
set_option maxRecDepth 100000 in
theorem clipStg_any (A : Option Addr) (n c : Nat) (w : World) (hnc : n ≤ c) :
    Calls Tryz.prog 142 #[.slice A n c] w fun e w' => e = .returned (.slice A n n) ∧ w = w' := by
  go_enter Tryz.func142, Tryz.ntmps142
  go_wp2
  go_ret
  exact ⟨rfl, by trivial⟩
set_option maxHeartbeats 1000000 in
set_option maxRecDepth 100000 in
theorem checked_any (A : Option Addr) (c : Nat) (L : List (Int × Int × Int)) (w : World) (hr : Rd w 0 w.heap.size 3 A L.length (cells3 L)) (hl : L.length ≤ 9223372036854775807) (hc : L.length ≤ c) :
    Calls Tryz.prog 71 #[.slice A L.length c] w fun e w' => ∃ A' c', e = .returned (.tuple #[.slice A' (if codeS L = 0 then L else []).length c', .int .i64 (codeS L)]) ∧ Rd w' 0 w'.heap.size 3 A' (if codeS L = 0 then L else []).length (cells3 (if codeS L = 0 then L else [])) ∧ Below w.heap.size w w' := by
  have HCK := Lib.hid (loadCheck_any A c L w hr hl)
  have HR := Lib.hid hr
  have HCL := Lib.hid (fun W => clipStg_any A L.length c W hc)
  obtain ⟨cc, hcc⟩ : ∃ cc, cc = codeS L := ⟨_, rfl⟩
  rw [← hcc] at HCK ⊢
  clear hr hcc
  by_cases hz : cc = 0
  · rw [if_pos hz]
    subst hz
    go_enter Tryz.func71, Tryz.ntmps71
    go_wp2_with fail
    refine HCK.out.mono ?_
    rintro e w1 ⟨rfl, hb1⟩
    have HB1 := Lib.hid hb1
    clear hb1
    go_wp2_with fail
    refine (HCL.out _).mono ?_
    rintro e w2 ⟨rfl, rfl⟩
    go_wp2
    go_ret2
    exact ⟨A, L.length, rfl, HR.out.old HB1.out, HB1.out⟩
  · have tz : (cc != 0) = true := by simpa using hz
    rw [if_neg hz]
    go_enter Tryz.func71, Tryz.ntmps71
    go_wp2_with fail
    refine HCK.out.mono ?_
    rintro e w1 ⟨rfl, hb1⟩
    go_wp2
    go_ret2
    exact ⟨none, 0, rfl, Rd.nil, hb1⟩
/-- the counts behind the first times -/
def cnts (ts : List Int) (wd : Int) (N k : Nat) : List Nat := (List.range N).map fun i => cntT (ts.take k) wd i
theorem cnts_length (ts : List Int) (wd : Int) (N k : Nat) : (cnts ts wd N k).length = N := by simp [cnts]
theorem cnts_get {ts : List Int} {wd : Int} {N k i : Nat} (h : i < N) : (cnts ts wd N k)[i]? = some (cntT (ts.take k) wd i) := by
  unfold cnts; rw [List.getElem?_map, List.getElem?_range h]; rfl
theorem cnts_zero (ts : List Int) (wd : Int) (N : Nat) : cnts ts wd N 0 = List.replicate N 0 := by
  apply List.ext_getElem
  · simp [cnts]
  · intro i h1 h2
    simp [cnts, cntT]
theorem cnts_step {ts : List Int} {wd t : Int} {M k c : Nat} (ht : ts[k]? = some t) (hc : cellT wd t = c) : cnts ts wd M (k + 1) = (cnts ts wd M k).set c (cntT (ts.take k) wd c + 1) := by
  apply List.ext_getElem
  · simp [cnts]
  · intro i h1 h2
    rw [List.getElem_set]
    simp only [cnts, List.getElem_map, List.getElem_range, List.take_add_one, ht, Option.toList_some, cntT_snoc]
    rw [hc]
    by_cases h : c = i
    · subst h; simp
    · rw [if_neg h, if_neg (by omega), Nat.add_zero]
theorem cell_mono {wd s t : Int} (hw : 1 ≤ wd) (h : s ≤ t) : cellT wd s ≤ cellT wd t := by
  unfold cellT
  exact Int.ediv_le_ediv (by omega) (by omega)
theorem cell_nn {wd t : Int} (hw : 1 ≤ wd) : 0 ≤ cellT wd t := by
  unfold cellT; exact Int.ediv_nonneg (by omega) (by omega)
theorem cell_hi {wd t : Int} (_hw : 1 ≤ wd) (h0 : 0 ≤ t) (h1 : t ≤ 1000000000000) : cellT wd t ≤ 1000000000000 := by
  unfold cellT
  have := Int.ediv_le_self wd (show 0 ≤ max 0 (t - 1) by omega)
  omega
theorem cell_lt {ts : List Int} {wd t : Int} {k : Nat} (h : OkT ts) (hw : 1 ≤ wd) (ht : ts[k]? = some t) : ∃ c : Nat, cellT wd t = c ∧ c < stepsT ts wd := by
  have hk := (List.getElem?_eq_some_iff.1 ht).1
  obtain ⟨u, hu, hl⟩ := lastT_take h (ts.length - 1) (by omega)
  rw [Nat.sub_add_cancel (by omega), List.take_of_length_le (Nat.le_refl _)] at hl
  have h1 := okT_mono h k (ts.length - 1) t u (by omega) ht hu
  have h2 := cell_mono hw h1
  have h3 := cell_nn (t := t) hw
  rw [lastT_last h, hl]
  exact ⟨(cellT wd t).toNat, by omega, by omega⟩

end Go.Proofs.YtepfmoaihhonlaaGreatDoor
