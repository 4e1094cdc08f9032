/- The area under the number of requests that are under way. No program in sight. -/
import Derived.Lib.Hide
namespace Go.Proofs.YtjkoppdddaknlaaGreatDoor
open Go

/-- how the number changes at a time: samples are (beginning, length) -/
def stp (l : List (Int × Int)) (t : Int) : Int := (l.countP (fun s => s.1 == t) : Int) - l.countP (fun s => s.1 + s.2 == t)
theorem stp_nil : stp [] = fun _ => 0 := by funext t; simp [stp]
/-- all times -/
def tms (l : List (Int × Int)) : List Int := l.flatMap fun s => [s.1, s.1 + s.2]
theorem tms_snoc (l : List (Int × Int)) (s : Int × Int) : tms (l ++ [s]) = tms l ++ [s.1, s.1 + s.2] := by simp [tms]
theorem mem_tms {l : List (Int × Int)} {t : Int} : t ∈ tms l ↔ ∃ s ∈ l, t = s.1 ∨ t = s.1 + s.2 := by simp [tms]
theorem stp_snoc (l : List (Int × Int)) (a d t : Int) : stp (l ++ [(a, d)]) t = stp l t + (if t = a then 1 else 0) - (if t = a + d then 1 else 0) := by
  unfold stp
  simp only [List.countP_append, List.countP_cons, List.countP_nil, Nat.zero_add]
  have h1 : ((a == t) = true) ↔ t = a := by simp; exact eq_comm
  have h2 : ((a + d == t) = true) ↔ t = a + d := by simp; exact eq_comm
  simp only [h1, h2]
  split <;> split <;> omega
theorem stp_bd (l : List (Int × Int)) (t : Int) : -(l.length : Int) ≤ stp l t ∧ stp l t ≤ l.length := by
  unfold stp
  have h1 := List.countP_le_length (p := fun s : Int × Int => s.1 == t) (l := l)
  have h2 := List.countP_le_length (p := fun s : Int × Int => s.1 + s.2 == t) (l := l)
  omega
def sm (f : Int → Int) (ts : List Int) : Int := (ts.map f).sum
theorem sm_cons (f : Int → Int) (t : Int) (ts : List Int) : sm f (t :: ts) = f t + sm f ts := by simp [sm]
theorem sm_snoc (f : Int → Int) (t : Int) (ts : List Int) : sm f (ts ++ [t]) = sm f ts + f t := by simp [sm]
theorem sm_one (g : Int → Int) (a : Int) (ts : List Int) (h : ts.Pairwise (· < ·)) : sm (fun t => g t * if t = a then 1 else 0) ts = if a ∈ ts then g a else 0 := by
  induction ts with
  | nil => simp [sm]
  | cons t ts ih =>
    rw [List.pairwise_cons] at h
    rw [sm_cons, ih h.2]
    by_cases e : t = a
    · subst e
      have : t ∉ ts := fun hm => by have := h.1 t hm; omega
      simp [this]
    · have e' : ¬ a = t := fun x => e x.symm
      simp [e, e']
theorem sm_add (f g : Int → Int) (ts : List Int) : sm (fun t => f t + g t) ts = sm f ts + sm g ts := by
  induction ts with
  | nil => simp [sm]
  | cons t ts ih => simp only [sm_cons, ih]; omega
theorem sm_sub (f g : Int → Int) (ts : List Int) : sm (fun t => f t - g t) ts = sm f ts - sm g ts := by
  induction ts with
  | nil => simp [sm]
  | cons t ts ih => simp only [sm_cons, ih]; omega
/-- weighted sums of the changes -/
theorem sm_stp (g : Int → Int) (ts : List Int) (h : ts.Pairwise (· < ·)) (l : List (Int × Int)) :
    sm (fun t => g t * stp l t) ts = (l.map fun s => (if s.1 ∈ ts then g s.1 else 0) - (if s.1 + s.2 ∈ ts then g (s.1 + s.2) else 0)).sum := by
  have key : ∀ l : List (Int × Int), sm (fun t => g t * stp l.reverse t) ts = (l.map fun s => (if s.1 ∈ ts then g s.1 else 0) - (if s.1 + s.2 ∈ ts then g (s.1 + s.2) else 0)).sum := by
    intro l
    induction l with
    | nil => simp only [List.reverse_nil, stp_nil, Int.mul_zero, List.map_nil, List.sum_nil]; induction ts with
      | nil => rfl
      | cons t ts ih => rw [sm_cons, ih (List.pairwise_cons.1 h).2]; rfl
    | cons s l ih =>
      obtain ⟨a, d⟩ := s
      have e : (fun t => g t * stp ((a, d) :: l).reverse t) = fun t => (g t * stp l.reverse t + g t * if t = a then 1 else 0) - g t * if t = a + d then 1 else 0 := by
        funext t
        rw [List.reverse_cons, stp_snoc, Int.mul_sub, Int.mul_add]
      rw [e, sm_sub, sm_add, ih, sm_one g a ts h, sm_one g (a + d) ts h, List.map_cons, List.sum_cons]
      simp only
      omega
  have := key l.reverse
  rw [List.reverse_reverse] at this
  rw [this, List.map_reverse, List.sum_reverse]
/-- the number behind some times: not negative, and at most the samples -/
theorem lvl_bd (ts : List Int) (h : ts.Pairwise (· < ·)) (l : List (Int × Int)) (hl : ∀ s ∈ l, 0 ≤ s.2) (hm : ∀ s ∈ l, s.1 ∈ ts ∧ s.1 + s.2 ∈ ts) (k : Nat) :
    0 ≤ sm (stp l) (ts.take k) ∧ sm (stp l) (ts.take k) ≤ l.length := by
  have e := sm_stp (fun _ => 1) (ts.take k) (h.sublist (List.take_sublist k ts)) l
  simp only [Int.one_mul] at e
  have e' : sm (stp l) (ts.take k) = (l.map fun s => (if s.1 ∈ ts.take k then (1 : Int) else 0) - (if s.1 + s.2 ∈ ts.take k then 1 else 0)).sum := e
  rw [e']
  clear e e'
  have key : ∀ s ∈ l, s.1 + s.2 ∈ ts.take k → s.1 ∈ ts.take k := by
    intro s hs hx
    obtain ⟨i, hi, ei⟩ := List.getElem_of_mem (hm s hs).1
    obtain ⟨j, hj, ej⟩ := List.getElem_of_mem hx
    rw [List.getElem_take] at ej
    simp only [List.length_take] at hj
    rw [List.pairwise_iff_getElem] at h
    have : i ≤ j := by
      rcases Nat.lt_or_ge j i with h1 | h1
      · exfalso
        have := h j i (by omega) hi h1
        have := hl s hs
        omega
      · exact h1
    rw [List.mem_take_iff_getElem]
    exact ⟨i, by omega, ei⟩
  clear hm h
  induction l with
  | nil => simp
  | cons s l ih =>
    have h1 := ih (fun x hx => hl x (by simp [hx])) (fun x hx => key x (by simp [hx]))
    have h2 := key s (by simp)
    simp only [List.map_cons, List.sum_cons, List.length_cons]
    by_cases h3 : s.1 + s.2 ∈ ts.take k
    · rw [if_pos h3, if_pos (h2 h3)]; omega
    · rw [if_neg h3]; split <;> omega
theorem sm_all (ts : List Int) (h : ts.Pairwise (· < ·)) (l : List (Int × Int)) (hm : ∀ s ∈ l, s.1 ∈ ts ∧ s.1 + s.2 ∈ ts) : sm (stp l) ts = 0 ∧ sm (fun t => t * stp l t) ts = - (l.map (·.2)).sum := by
  have e1 := sm_stp (fun _ => 1) ts h l
  have e2 := sm_stp (fun t => t) ts h l
  simp only [Int.one_mul] at e1
  have e1' : sm (stp l) ts = (l.map fun s => (if s.1 ∈ ts then (1 : Int) else 0) - (if s.1 + s.2 ∈ ts then 1 else 0)).sum := e1
  rw [e1', e2]
  clear e1 e2 e1'
  induction l with
  | nil => simp
  | cons s l ih =>
    obtain ⟨h1, h2⟩ := ih (fun x hx => hm x (by simp [hx]))
    have h3 := hm s (by simp)
    simp only [List.map_cons, List.sum_cons, if_pos h3.1, if_pos h3.2, h1, h2]
    omega

/-- what the loop over the times makes -/
def chg (f : Int → Int) (ts : List Int) : List (Int × Int) := ts.foldl (fun out t => if f t = 0 then out else out ++ [(t, (out.getLast?.map (·.2)).getD 0 + f t)]) []
theorem chg_snoc (f : Int → Int) (ts : List Int) (t : Int) : chg f (ts ++ [t]) = if f t = 0 then chg f ts else chg f ts ++ [(t, ((chg f ts).getLast?.map (·.2)).getD 0 + f t)] := by
  simp [chg, List.foldl_append]
/-- the area, as the law adds it up -/
def ar : List (Int × Int) → Int
  | [] => 0
  | [_] => 0
  | x :: y :: r => x.2 * (y.1 - x.1) + ar (y :: r)
theorem ar_snoc (l : List (Int × Int)) (x y : Int × Int) : ar (l ++ [x] ++ [y]) = ar (l ++ [x]) + x.2 * (y.1 - x.1) := by
  induction l with
  | nil => simp [ar]
  | cons z l ih =>
    cases l with
    | nil => simp [ar]
    | cons z' l => simp only [List.cons_append, ar] at *; omega
theorem chg_last (f : Int → Int) (ts : List Int) : ((chg f ts).getLast?.map (·.2)).getD 0 = sm f ts := by
  have key : ∀ l : List Int, ((chg f l.reverse).getLast?.map (·.2)).getD 0 = sm f l.reverse := by
    intro l
    induction l with
    | nil => rfl
    | cons t l ih =>
      rw [List.reverse_cons, chg_snoc, sm_snoc]
      split
      · rename_i h; rw [ih, h]; omega
      · simp [ih]
  have := key ts.reverse
  rwa [List.reverse_reverse] at this
theorem chg_step (f : Int → Int) (ts : List Int) (t : Int) : chg f (ts ++ [t]) = if f t = 0 then chg f ts else chg f ts ++ [(t, sm f (ts ++ [t]))] := by
  rw [chg_snoc, chg_last, sm_snoc]
theorem chg_length (f : Int → Int) (ts : List Int) : (chg f ts).length ≤ ts.length := by
  have key : ∀ l : List Int, (chg f l.reverse).length ≤ l.length := by
    intro l
    induction l with
    | nil => simp [chg]
    | cons t l ih =>
      rw [List.reverse_cons, chg_snoc]
      split
      · simp; omega
      · simp; omega
  have := key ts.reverse
  rwa [List.reverse_reverse, List.length_reverse] at this
/-- Abel's sum -/
theorem chg_area (f : Int → Int) (ts : List Int) : ar (chg f ts) + sm (fun t => t * f t) ts = ((chg f ts).getLast?.map (fun x => x.1 * x.2)).getD 0 := by
  have key : ∀ l : List Int, ar (chg f l.reverse) + sm (fun t => t * f t) l.reverse = ((chg f l.reverse).getLast?.map (fun x => x.1 * x.2)).getD 0 := by
    intro l
    induction l with
    | nil => rfl
    | cons t l ih =>
      rw [List.reverse_cons, chg_snoc, sm_snoc]
      split
      · rename_i h; rw [h]; omega
      · rcases List.eq_nil_or_concat (chg f l.reverse) with e | ⟨m, x, e⟩
        · rw [e] at ih ⊢
          simp [ar] at ih ⊢
          omega
        · rw [List.concat_eq_append] at e
          rw [e] at ih ⊢
          rw [ar_snoc]
          simp at ih ⊢
          rw [Int.mul_sub, Int.mul_add, Int.mul_comm x.2 t, Int.mul_comm x.2 x.1]
          omega
  have := key ts.reverse
  rwa [List.reverse_reverse] at this
theorem chg_mem (f : Int → Int) (ts : List Int) : ∀ c ∈ chg f ts, c.1 ∈ ts ∧ ∃ k, c.2 = sm f (ts.take k) := by
  have key : ∀ l : List Int, ∀ c ∈ chg f l.reverse, c.1 ∈ l.reverse ∧ ∃ k, c.2 = sm f (l.reverse.take k) := by
    intro l
    induction l with
    | nil => intro c hc; simp [chg] at hc
    | cons t l ih =>
      intro c hc
      rw [List.reverse_cons, chg_step] at hc
      have old : ∀ c ∈ chg f l.reverse, c.1 ∈ (t :: l).reverse ∧ ∃ k, c.2 = sm f ((t :: l).reverse.take k) := by
        intro c hc
        obtain ⟨h1, k, h2⟩ := ih c hc
        refine ⟨by rw [List.reverse_cons]; exact List.mem_append_left _ h1, min k l.reverse.length, ?_⟩
        rw [h2, List.reverse_cons, List.take_append_of_le_length (Nat.min_le_right _ _)]
        congr 1
        rw [List.take_eq_take_min]
      split at hc
      · exact old c hc
      · rw [List.mem_append] at hc
        rcases hc with hc | hc
        · exact old c hc
        · simp only [List.mem_singleton] at hc
          subst hc
          refine ⟨by simp, (l.reverse ++ [t]).length, ?_⟩
          rw [List.reverse_cons, List.take_length]
  have := key ts.reverse
  rwa [List.reverse_reverse] at this
theorem chg_sorted (f : Int → Int) (ts : List Int) (h : ts.Pairwise (· < ·)) : (chg f ts).Pairwise (fun a b => a.1 < b.1) := by
  have key : ∀ l : List Int, l.reverse.Pairwise (· < ·) → (chg f l.reverse).Pairwise (fun a b => a.1 < b.1) := by
    intro l
    induction l with
    | nil => intro _; simp [chg]
    | cons t l ih =>
      intro h
      rw [List.reverse_cons] at h ⊢
      rw [List.pairwise_append] at h
      rw [chg_snoc]
      split
      · exact ih h.1
      · rw [List.pairwise_append]
        refine ⟨ih h.1, by simp, fun a ha b hb => ?_⟩
        simp only [List.mem_singleton] at hb
        subst hb
        exact h.2.2 a.1 (chg_mem f _ a ha).1 t (by simp)
  have := key ts.reverse
  rw [List.reverse_reverse] at this
  exact this h
/-- the whole law -/
theorem area_law (l : List (Int × Int)) (hl : ∀ s ∈ l, 0 ≤ s.2) (ts : List Int) (h : ts.Pairwise (· < ·)) (hm : ∀ t, t ∈ ts ↔ t ∈ tms l) :
    ar (chg (stp l) ts) = (l.map (·.2)).sum ∧ (∀ c, (chg (stp l) ts).getLast? = some c → c.2 = 0) ∧ (∀ c ∈ chg (stp l) ts, c.1 ∈ tms l ∧ 0 ≤ c.2 ∧ c.2 ≤ l.length) ∧ (chg (stp l) ts).Pairwise (fun a b => a.1 < b.1) := by
  have hm' : ∀ s ∈ l, s.1 ∈ ts ∧ s.1 + s.2 ∈ ts := fun s hs => ⟨(hm _).2 (mem_tms.2 ⟨s, hs, .inl rfl⟩), (hm _).2 (mem_tms.2 ⟨s, hs, .inr rfl⟩)⟩
  obtain ⟨e1, e2⟩ := sm_all ts h l hm'
  have hz : ∀ c, (chg (stp l) ts).getLast? = some c → c.2 = 0 := by
    intro c hc
    have := chg_last (stp l) ts
    rw [hc, e1] at this
    simpa using this
  refine ⟨?_, hz, fun c hc => ?_, chg_sorted _ _ h⟩
  · have h1 := chg_area (stp l) ts
    rw [e2] at h1
    have h2 : ((chg (stp l) ts).getLast?.map (fun x => x.1 * x.2)).getD 0 = 0 := by
      cases hc : (chg (stp l) ts).getLast? with
      | none => rfl
      | some c => simp [hz c hc]
    omega
  · obtain ⟨h1, k, h2⟩ := chg_mem _ _ c hc
    rw [h2]
    exact ⟨(hm _).1 h1, lvl_bd ts h l hl hm' k⟩
end Go.Proofs.YtjkoppdddaknlaaGreatDoor
