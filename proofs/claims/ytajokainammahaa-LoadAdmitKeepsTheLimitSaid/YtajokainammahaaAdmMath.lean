/- Times and tokens, in plain Lean: what checkTimes, fill, take and Admit return; the law of Admit. -/
namespace Go.Proofs.Ytajokainammahaa

/-- the code of the element at a place -/
def elT (l : List Int) (i : Nat) : Int := if l.getD i 0 < 0 ∨ 1000000000000 < l.getD i 0 then 9 else if 0 < i ∧ l.getD i 0 < l.getD (i - 1) 0 then 10 else 0
def codeT (l : List Int) : Int := if 20000 < l.length then 3 else (((List.range l.length).map (elT l)).find? (· != 0)).getD 0
theorem codeT_at {l : List Int} {k : Nat} (hn : ¬ 20000 < l.length) (hk : k < l.length) (h0 : ∀ j, j < k → elT l j = 0) (hb : elT l k ≠ 0) : codeT l = elT l k := by
  unfold codeT; rw [if_neg hn]
  have e : List.range l.length = List.range k ++ (k :: (List.range (l.length - k - 1)).map (k + 1 + ·)) := by
    conv => lhs; rw [show l.length = k + (1 + (l.length - k - 1)) by omega, List.range_add]
    congr 1
    rw [List.range_add]
    simp [Nat.add_assoc]
  rw [e, List.map_append, List.find?_append]
  have h1 : ((List.range k).map (elT l)).find? (· != 0) = none := by
    rw [List.find?_eq_none]; intro x hx
    obtain ⟨j, hj, rfl⟩ := List.mem_map.1 hx
    simp [h0 j (by simpa using hj)]
  rw [h1]
  simp [hb]
theorem codeT_end {l : List Int} (hn : ¬ 20000 < l.length) (h0 : ∀ j, j < l.length → elT l j = 0) : codeT l = 0 := by
  unfold codeT; rw [if_neg hn]
  have h1 : ((List.range l.length).map (elT l)).find? (· != 0) = none := by
    rw [List.find?_eq_none]; intro x hx
    obtain ⟨j, hj, rfl⟩ := List.mem_map.1 hx
    simp [h0 j (by simpa using hj)]
  rw [h1]; rfl
/-- a list that checkTimes accepts -/
structure OkT (l : List Int) : Prop where
  le : l.length ≤ 20000
  el : ∀ j, j < l.length → elT l j = 0
theorem codeT_ok {l : List Int} (h : codeT l = 0) : OkT l := by
  have hn : ¬ 20000 < l.length := by
    intro hn; unfold codeT at h; rw [if_pos hn] at h; omega
  refine ⟨by omega, fun j hj => ?_⟩
  unfold codeT at h; rw [if_neg hn] at h
  cases hf : ((List.range l.length).map (elT l)).find? (· != 0) with
  | some x =>
    rw [hf] at h
    have := List.find?_some hf
    simp at this h
    exact absurd h this
  | none =>
    rw [List.find?_eq_none] at hf
    have := hf (elT l j) (List.mem_map.2 ⟨j, by simpa using hj, rfl⟩)
    simpa using this
theorem OkT.code {l : List Int} (h : OkT l) : codeT l = 0 := codeT_end (by have := h.le; omega) h.el
theorem OkT.range {l : List Int} (h : OkT l) {j : Nat} {t : Int} (hj : l[j]? = some t) : 0 ≤ t ∧ t ≤ 1000000000000 := by
  have hl := (List.getElem?_eq_some_iff.1 hj).1
  have := h.el j hl
  have e : l.getD j 0 = t := by rw [List.getD_eq_getElem?_getD, hj]; rfl
  unfold elT at this
  rw [e] at this
  split at this
  · omega
  · omega

/-- the vessel (have, at) at a later time -/
def fillS (R r : Int) (s : Int × Int) (t : Int) : Int × Int :=
  (if 0 < r ∧ s.2 < t then (if (R - s.1) / r < t - s.2 then R else s.1 + r * (t - s.2)) else s.1, max s.2 t)
/-- the vessel behind a token; it tells the time -/
def takeS (R r : Int) (s : Int × Int) (t : Int) : Option (Int × Int) :=
  if 0 < 1000000000 - (fillS R r s t).1 then
    (if r = 0 then none else
      some ((fillS R r (fillS R r s t) ((fillS R r s t).2 + (1000000000 - (fillS R r s t).1 + r - 1) / r)).1 - 1000000000, (fillS R r (fillS R r s t) ((fillS R r s t).2 + (1000000000 - (fillS R r s t).1 + r - 1) / r)).2))
  else some ((fillS R r s t).1 - 1000000000, (fillS R r s t).2)

theorem ediv_lo {a r : Int} (hr : 0 < r) : r * (a / r) ≤ a ∧ a < r * (a / r) + r := by
  have h1 := Int.mul_ediv_add_emod a r
  have h2 := Int.emod_nonneg a (show r ≠ 0 by omega)
  have h3 := Int.emod_lt_of_pos a hr
  omega
theorem fill_bd {R r h a t : Int} (hr : 0 ≤ r) (hh : h ≤ R) : h ≤ (fillS R r (h, a) t).1 ∧ (fillS R r (h, a) t).1 ≤ R ∧ (fillS R r (h, a) t).1 ≤ h + r * ((fillS R r (h, a) t).2 - a) ∧ a ≤ (fillS R r (h, a) t).2 ∧ t ≤ (fillS R r (h, a) t).2 := by
  unfold fillS
  simp only
  by_cases h1 : 0 < r ∧ a < t
  · rw [if_pos h1]
    obtain ⟨h1, h2⟩ := h1
    have hm : max a t = t := by omega
    rw [hm]
    obtain ⟨e1, e2⟩ := ediv_lo (a := R - h) h1
    by_cases h3 : (R - h) / r < t - a
    · rw [if_pos h3]
      have : r * ((R - h) / r + 1) ≤ r * (t - a) := Int.mul_le_mul_of_nonneg_left (by omega) (by omega)
      rw [Int.mul_add] at this
      omega
    · rw [if_neg h3]
      have h4 : r * (t - a) ≤ r * ((R - h) / r) := Int.mul_le_mul_of_nonneg_left (by omega) (by omega)
      have h5 : 0 ≤ r * (t - a) := Int.mul_nonneg (by omega) (by omega)
      omega
  · rw [if_neg h1]
    have : 0 ≤ r * (max a t - a) := Int.mul_nonneg hr (by omega)
    omega
theorem take_bd {R r h a t h' a' : Int} (hr : 0 ≤ r) (hR : 1000000000 ≤ R) (hh : h ≤ R) (e : takeS R r (h, a) t = some (h', a')) :
    0 ≤ h' ∧ h' + 1000000000 ≤ R ∧ a ≤ a' ∧ t ≤ a' ∧ h' + 1000000000 ≤ h + r * (a' - a) := by
  obtain ⟨f1, f2, f3, f4, f5⟩ := fill_bd (a := a) (t := t) hr hh
  unfold takeS at e
  obtain ⟨⟨h1, a1⟩, hs⟩ : ∃ s, s = fillS R r (h, a) t := ⟨_, rfl⟩
  rw [← hs] at e f1 f2 f3 f4 f5
  simp only at e f1 f2 f3 f4 f5
  split at e
  · rename_i hm
    split at e
    · cases e
    · rename_i hr0
      obtain ⟨g1, g2, g3, g4, g5⟩ := fill_bd (a := a1) (t := a1 + (1000000000 - h1 + r - 1) / r) hr f2
      have key : 1000000000 ≤ (fillS R r (h1, a1) (a1 + (1000000000 - h1 + r - 1) / r)).1 := by
        unfold fillS
        simp only
        obtain ⟨e1, e2⟩ := ediv_lo (a := 1000000000 - h1 + r - 1) (r := r) (by omega)
        have hp : 0 < (1000000000 - h1 + r - 1) / r := by
          refine Classical.byContradiction fun hc => ?_
          have : r * ((1000000000 - h1 + r - 1) / r) ≤ 0 := Int.mul_nonpos_of_nonneg_of_nonpos (by omega) (by omega)
          omega
        rw [if_pos ⟨by omega, by omega⟩]
        split
        · exact hR
        · rw [show a1 + (1000000000 - h1 + r - 1) / r - a1 = (1000000000 - h1 + r - 1) / r by omega]
          omega
      obtain ⟨⟨h2, a2⟩, hs2⟩ : ∃ s, s = fillS R r (h1, a1) (a1 + (1000000000 - h1 + r - 1) / r) := ⟨_, rfl⟩
      rw [← hs2] at e g1 g2 g3 g4 g5 key
      simp only [Option.some.injEq, Prod.mk.injEq] at e g1 g2 g3 g4 g5 key
      obtain ⟨rfl, rfl⟩ := e
      have : r * (a2 - a) = r * (a2 - a1) + r * (a1 - a) := by rw [← Int.mul_add]; congr 1; omega
      omega
  · simp only [Option.some.injEq, Prod.mk.injEq] at e
    obtain ⟨rfl, rfl⟩ := e
    omega
/-- the vessel behind the first ones -/
def stS (R r : Int) (ts : List Int) : Nat → Option (Int × Int)
  | 0 => some (R, 0)
  | k + 1 => match stS R r ts k with
    | none => none
    | some s => match ts[k]? with
      | none => none
      | some t => takeS R r s t
theorem stS_succ {R r : Int} {ts : List Int} {k : Nat} {s : Int × Int} {t : Int} (h : stS R r ts k = some s) (ht : ts[k]? = some t) : stS R r ts (k + 1) = takeS R r s t := by
  rw [stS, h, ht]
theorem stS_none {R r : Int} {ts : List Int} {k : Nat} (h : stS R r ts k = none) : ∀ m, k ≤ m → stS R r ts m = none
  | 0, hm => by obtain rfl : k = 0 := by omega
                exact h
  | m + 1, hm => by
    rcases Nat.eq_or_lt_of_le hm with e | e
    · rw [← e]; exact h
    · rw [stS, stS_none h m (by omega)]
theorem stS_some {R r : Int} {ts : List Int} {n : Nat} {s : Int × Int} (h : stS R r ts n = some s) {k : Nat} (hk : k ≤ n) : ∃ s', stS R r ts k = some s' := by
  cases e : stS R r ts k with
  | none => rw [stS_none e n hk] at h; cases h
  | some s' => exact ⟨s', rfl⟩
/-- the times at which the first ones begin -/
def outsS (R r : Int) (ts : List Int) (k : Nat) : List Int := (List.range k).map fun j => ((stS R r ts (j + 1)).getD (0, 0)).2
theorem outsS_snoc (R r : Int) (ts : List Int) (k : Nat) : outsS R r ts (k + 1) = outsS R r ts k ++ [((stS R r ts (k + 1)).getD (0, 0)).2] := by simp [outsS, List.range_succ]
theorem outsS_length (R r : Int) (ts : List Int) (k : Nat) : (outsS R r ts k).length = k := by simp [outsS]
theorem outsS_get {R r : Int} {ts : List Int} {n j : Nat} (hj : j < n) {s : Int × Int} (h : stS R r ts (j + 1) = some s) : (outsS R r ts n)[j]? = some s.2 := by
  unfold outsS; rw [List.getElem?_map, List.getElem?_range hj]; simp [h]
def admOk (rate burst : Int) : Prop := 0 ≤ rate ∧ rate ≤ 1000000000 ∧ 1 ≤ burst ∧ burst ≤ 1000000
instance (a b : Int) : Decidable (admOk a b) := by unfold admOk; infer_instance
/-- what Admit returns -/
def admC (ts : List Int) (rate burst : Int) : Int :=
  if codeT ts ≠ 0 then codeT ts else if ¬ admOk rate burst then 9 else if stS (burst * 1000000000) rate ts ts.length = none then 4 else if (outsS (burst * 1000000000) rate ts ts.length).any (fun t => decide (1000000000000 < t)) = true then 3 else 0
def admL (ts : List Int) (rate burst : Int) : List Int := if admC ts rate burst = 0 then outsS (burst * 1000000000) rate ts ts.length else []

theorem st_bd {R r : Int} {ts : List Int} (hr : 0 ≤ r) (hR : 1000000000 ≤ R) : ∀ k h a, stS R r ts k = some (h, a) → 0 ≤ h ∧ h ≤ R ∧ 0 ≤ a ∧ (0 < k → h + 1000000000 ≤ R)
  | 0, h, a, e => by simp [stS] at e; omega
  | k + 1, h, a, e => by
    rw [stS] at e
    split at e
    · cases e
    · rename_i s hs
      split at e
      · cases e
      · rename_i t ht
        obtain ⟨h0, a0⟩ := s
        have := st_bd hr hR k h0 a0 hs
        have := take_bd hr hR (by omega) e
        omega
theorem st_step {R r : Int} {ts : List Int} (hr : 0 ≤ r) (hR : 1000000000 ≤ R) {k : Nat} {h a h' a' t : Int} (e : stS R r ts k = some (h, a)) (e' : stS R r ts (k + 1) = some (h', a')) (ht : ts[k]? = some t) : a ≤ a' ∧ t ≤ a' ∧ h' + 1000000000 ≤ h + r * (a' - a) := by
  rw [stS_succ e ht] at e'
  have h1 := st_bd hr hR k h a e
  have := take_bd hr hR (by omega) e'
  omega
/-- the law: behind a token, further m tokens -/
theorem st_law {R r : Int} {ts : List Int} (hr : 0 ≤ r) (hR : 1000000000 ≤ R) {i : Nat} {h a : Int} (e : stS R r ts i = some (h, a)) : ∀ m h' a', stS R r ts (i + m) = some (h', a') → a ≤ a' ∧ h' + m * 1000000000 ≤ h + r * (a' - a)
  | 0, h', a', e' => by
    rw [Nat.add_zero, e] at e'
    simp only [Option.some.injEq, Prod.mk.injEq] at e'
    obtain ⟨rfl, rfl⟩ := e'
    simp
  | m + 1, h', a', e' => by
    obtain ⟨⟨h1, a1⟩, hs⟩ := stS_some e' (k := i + m) (by omega)
    have ih := st_law hr hR e m h1 a1 hs
    have ht : ∃ t, ts[i + m]? = some t := by
      cases hx : ts[i + m]? with
      | some t => exact ⟨t, rfl⟩
      | none => rw [show i + (m + 1) = i + m + 1 by omega, stS, hs, hx] at e'; cases e'
    obtain ⟨t, ht⟩ := ht
    have := st_step hr hR hs e' ht
    have e3 : r * (a' - a) = r * (a' - a1) + r * (a1 - a) := by rw [← Int.mul_add]; congr 1; omega
    omega
theorem adm_law {R r : Int} {ts : List Int} (hr : 0 ≤ r) (hR : 1000000000 ≤ R) {i k : Nat} {s1 s2 : Int × Int} (h1 : stS R r ts (i + 1) = some s1) (h2 : stS R r ts (k + 1) = some s2) (hik : i ≤ k) : s1.2 ≤ s2.2 ∧ ((k : Int) - i + 1) * 1000000000 ≤ R + r * (s2.2 - s1.2) := by
  obtain ⟨a, b⟩ := s1
  obtain ⟨c, d⟩ := s2
  have e := st_law hr hR h1 (k - i) c d (by rw [show i + 1 + (k - i) = k + 1 by omega]; exact h2)
  have b1 := st_bd hr hR _ a b h1
  have b2 := st_bd hr hR _ c d h2
  simp only at *
  omega
end Go.Proofs.Ytajokainammahaa
