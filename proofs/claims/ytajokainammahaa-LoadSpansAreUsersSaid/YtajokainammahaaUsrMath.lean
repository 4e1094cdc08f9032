/- Users and spans, in plain Lean: numbers of users, changes, spans; the law that as many spans are open as there are users. -/
namespace Go.Proofs.Ytajokainammahaa

/-- rounded up, as muldiv and its rest give it -/
def cdivS (a c : Int) : Int := a / c + if 0 < a % c then 1 else 0
/-- the number of users at a place -/
def numS (s : Int × Int × Int) (x : Int) : Int :=
  if s.2.1 ≤ s.2.2 then (s.2.1 + (s.2.2 - s.2.1) * x / s.1) / 1000 else (s.2.1 - cdivS ((s.2.1 - s.2.2) * x) s.1) / 1000
/-- the next place with another number -/
def nextS (s : Int × Int × Int) (n : Int) : Int :=
  if s.2.1 ≤ s.2.2 then cdivS (((n + 1) * 1000 - s.2.1) * s.1) (s.2.2 - s.2.1) else (s.2.1 - n * 1000) * s.1 / (s.2.1 - s.2.2) + 1
/-- changes so far, and the sum of the differences -/
abbrev Crd := List (Int × Int) × Int
def nowC (o : List (Int × Int)) : Int := (o.getLast?.map (·.2)).getD 0
def setC (c : Crd) (t n : Int) : Crd := if n = nowC c.1 then c else (c.1 ++ [(t, n)], c.2 + max (n - nowC c.1) (nowC c.1 - n))
def stepC (s : Int × Int × Int) (b : Int) : Nat → Int → Crd → Crd
  | 0, _, c => c
  | f + 1, n, c =>
    if c.2 ≤ 10000 ∧ s.2.1 ≠ s.2.2 ∧ n ≠ s.2.2 / 1000 then
      (if s.1 ≤ nextS s n then c else stepC s b f (numS s (nextS s n)) (setC c (b + nextS s n) (numS s (nextS s n))))
    else c
def stageC (c : Crd) (s : Int × Int × Int) (b : Int) : Crd := stepC s b 10002 (s.2.1 / 1000) (setC c b (s.2.1 / 1000))
def runC : List (Int × Int × Int) → Int → Crd → Crd × Int
  | [], b, c => (c, b)
  | s :: r, b, c => runC r (b + s.1) (stageC c s b)
def usersC (l : List (Int × Int × Int)) : Crd := setC (runC l 0 ([], 0)).1 (runC l 0 ([], 0)).2 0

theorem div_lo {a c : Int} (hc : 0 < c) : c * (a / c) ≤ a ∧ a < c * (a / c) + c := by
  have h1 := Int.mul_ediv_add_emod a c
  have h2 := Int.emod_nonneg a (show c ≠ 0 by omega)
  have h3 := Int.emod_lt_of_pos a hc
  omega
theorem cdiv_lo {a c : Int} (hc : 0 < c) : a ≤ c * cdivS a c ∧ c * cdivS a c < a + c := by
  have h1 := Int.mul_ediv_add_emod a c
  have h2 := Int.emod_nonneg a (show c ≠ 0 by omega)
  have h3 := Int.emod_lt_of_pos a hc
  unfold cdivS
  split
  · rw [Int.mul_add]; omega
  · rw [Int.add_zero]; omega
theorem le_div {a c q : Int} (hc : 0 < c) : q ≤ a / c ↔ q * c ≤ a := Int.le_ediv_iff_mul_le hc
theorem cdiv_le {a c q : Int} (hc : 0 < c) : cdivS a c ≤ q ↔ a ≤ c * q := by
  obtain ⟨h1, h2⟩ := cdiv_lo (a := a) hc
  constructor
  · intro h
    have := Int.mul_le_mul_of_nonneg_left h (show 0 ≤ c by omega)
    omega
  · intro h
    refine Classical.byContradiction fun hn => ?_
    have : c * (q + 1) ≤ c * cdivS a c := Int.mul_le_mul_of_nonneg_left (by omega) (by omega)
    rw [Int.mul_add] at this
    omega
/-- a rising stage has at least m users just if the rate is there -/
theorem num_up {F x y p m : Int} (hF : 0 < F) (hxy : x ≤ y) : m ≤ numS (F, x, y) p ↔ (m * 1000 - x) * F ≤ (y - x) * p := by
  unfold numS
  simp only
  rw [if_pos hxy, le_div (by omega), show m * 1000 ≤ x + (y - x) * p / F ↔ m * 1000 - x ≤ (y - x) * p / F by omega, le_div hF]
theorem num_down {F x y p m : Int} (hF : 0 < F) (hxy : ¬ x ≤ y) : m ≤ numS (F, x, y) p ↔ (x - y) * p ≤ F * (x - m * 1000) := by
  unfold numS
  simp only
  rw [if_neg hxy, le_div (by omega), show m * 1000 ≤ x - cdivS ((x - y) * p) F ↔ cdivS ((x - y) * p) F ≤ x - m * 1000 by omega, cdiv_le hF]
/-- where the number is another one -/
theorem next_up {F x y p n : Int} (hF : 0 < F) (hxy : x < y) : nextS (F, x, y) n ≤ p ↔ n + 1 ≤ numS (F, x, y) p := by
  rw [num_up hF (by omega)]
  unfold nextS
  simp only
  rw [if_pos (by omega), cdiv_le (by omega)]
theorem next_down {F x y p n : Int} (hF : 0 < F) (hxy : y < x) : nextS (F, x, y) n ≤ p ↔ numS (F, x, y) p < n := by
  have h := num_down (F := F) (x := x) (y := y) (p := p) (m := n) hF (by omega)
  have e : nextS (F, x, y) n ≤ p ↔ ¬ p ≤ (x - n * 1000) * F / (x - y) := by
    unfold nextS
    simp only
    rw [if_neg (by omega)]
    omega
  rw [e, le_div (by omega)]
  rw [Int.mul_comm p, Int.mul_comm (x - n * 1000)]
  omega
/-- a stage within the limits -/
def OkU (s : Int × Int × Int) : Prop := 1 ≤ s.1 ∧ s.1 ≤ 100000000000 ∧ 0 ≤ s.2.1 ∧ s.2.1 ≤ 1000000000 ∧ 0 ≤ s.2.2 ∧ s.2.2 ≤ 1000000000
theorem num_zero {F x y : Int} (hF : 0 < F) : numS (F, x, y) 0 = x / 1000 := by
  unfold numS cdivS; simp
theorem num_bd {F x y p : Int} (h : OkU (F, x, y)) (h0 : 0 ≤ p) (h1 : p ≤ F) : (x ≤ y → x / 1000 ≤ numS (F, x, y) p ∧ numS (F, x, y) p ≤ y / 1000) ∧ (¬ x ≤ y → y / 1000 ≤ numS (F, x, y) p ∧ numS (F, x, y) p ≤ x / 1000) := by
  obtain ⟨o1, o2, o3, o4, o5, o6⟩ := h
  simp only at *
  constructor
  · intro hxy
    unfold numS; simp only
    rw [if_pos hxy]
    have a1 : 0 ≤ (y - x) * p := Int.mul_nonneg (by omega) h0
    have a2 : (y - x) * p ≤ (y - x) * F := Int.mul_le_mul_of_nonneg_left h1 (by omega)
    have a3 : 0 ≤ (y - x) * p / F := Int.ediv_nonneg a1 (by omega)
    have a4 : (y - x) * p / F ≤ y - x := by
      have := Int.ediv_le_ediv (show 0 < F by omega) a2
      rwa [Int.mul_ediv_cancel _ (by omega)] at this
    omega
  · intro hxy
    unfold numS; simp only
    rw [if_neg hxy]
    have a1 : 0 ≤ (x - y) * p := Int.mul_nonneg (by omega) h0
    have a2 : (x - y) * p ≤ F * (x - y) := by rw [Int.mul_comm F]; exact Int.mul_le_mul_of_nonneg_left h1 (by omega)
    have a4 : cdivS ((x - y) * p) F ≤ x - y := (cdiv_le (by omega)).2 a2
    have a3 : 0 ≤ cdivS ((x - y) * p) F := by
      unfold cdivS
      have := Int.ediv_nonneg a1 (show 0 ≤ F by omega)
      split <;> omega
    omega
/-- the next place is behind the place of the number, at most at the end, and has another number -/
theorem next_bd {F x y p n : Int} (h : OkU (F, x, y)) (h0 : 0 ≤ p) (h1 : p < F) (hn : n = numS (F, x, y) p) (hxy : x ≠ y) (hne : n ≠ y / 1000) :
    p < nextS (F, x, y) n ∧ nextS (F, x, y) n ≤ F ∧ numS (F, x, y) (nextS (F, x, y) n) ≠ n ∧ (x ≤ y → (n + 1) * 1000 ≤ y) ∧ (¬ x ≤ y → y < n * 1000 ∧ n * 1000 ≤ x) := by
  have hb := num_bd h h0 (by omega)
  rw [← hn] at hb
  have hF : 0 < F := by have := h.1; simp only at this; omega
  rcases Int.lt_or_le x y with hlt | hge
  · have b1 := hb.1 (by omega)
    refine ⟨?_, ?_, ?_, fun _ => by omega, fun hc => by omega⟩
    · refine Classical.byContradiction fun hc => ?_
      have := (next_up (F := F) (p := p) (n := n) hF hlt).1 (by omega)
      omega
    · rw [next_up hF hlt, num_up hF (by omega)]
      rw [Int.mul_comm (y - x), Int.mul_comm _ F]
      exact Int.mul_le_mul_of_nonneg_left (by omega) (by omega)
    · have := (next_up (F := F) (p := nextS (F, x, y) n) (n := n) hF hlt).1 (Int.le_refl _)
      omega
  · have hlt : y < x := by omega
    have b1 := hb.2 (by omega)
    refine ⟨?_, ?_, ?_, fun hc => by omega, fun _ => by omega⟩
    · refine Classical.byContradiction fun hc => ?_
      have := (next_down (F := F) (p := p) (n := n) hF hlt).1 (by omega)
      omega
    · rw [next_down hF hlt]
      have := (num_down (F := F) (x := x) (y := y) (p := F) (m := n) hF (by omega))
      refine Classical.byContradiction fun hc => ?_
      have h2 := this.1 (by omega)
      rw [Int.mul_comm (x - y)] at h2
      have h3 : F * (x - n * 1000) < F * (x - y) := Int.mul_lt_mul_of_pos_left (by omega) hF
      omega
    · have := (next_down (F := F) (p := nextS (F, x, y) n) (n := n) hF hlt).1 (Int.le_refl _)
      omega
/-- the changes come one behind the other, all before a time -/
structure Asc (o : List (Int × Int)) (hi : Int) : Prop where
  inc : ∀ (i j : Nat) a b, i < j → o[i]? = some a → o[j]? = some b → a.1 < b.1
  lt : ∀ a ∈ o, a.1 < hi
  bd : ∀ a ∈ o, 0 ≤ a.1 ∧ 0 ≤ a.2 ∧ a.2 ≤ 1000000
theorem Asc.mono {o : List (Int × Int)} {hi hi' : Int} (h : Asc o hi) (hh : hi ≤ hi') : Asc o hi' := ⟨h.inc, fun a ha => by have := h.lt a ha; omega, h.bd⟩
theorem Asc.snoc {o : List (Int × Int)} {hi t n : Int} (h : Asc o hi) (ht : hi ≤ t) (h0 : 0 ≤ t) (hn : 0 ≤ n) (hn2 : n ≤ 1000000) : Asc (o ++ [(t, n)]) (t + 1) := by
  refine ⟨fun i j a b hij ha hb => ?_, fun a ha => ?_, fun a ha => ?_⟩
  · rw [List.getElem?_append] at ha hb
    split at ha
    · split at hb
      · exact h.inc i j a b hij ha hb
      · rw [List.getElem?_singleton] at hb
        split at hb
        · obtain rfl := Option.some.inj hb
          have := h.lt a (List.mem_of_getElem? ha)
          simp only; omega
        · cases hb
    · split at hb
      · omega
      · rw [List.getElem?_singleton] at ha hb
        split at ha
        · split at hb
          · omega
          · cases hb
        · cases ha
  · rcases List.mem_append.1 ha with h' | h'
    · have := h.lt a h'; omega
    · simp at h'; subst h'; simp only; omega
  · rcases List.mem_append.1 ha with h' | h'
    · exact h.bd a h'
    · simp at h'; subst h'; exact ⟨h0, hn, hn2⟩
theorem Asc.now {o : List (Int × Int)} {hi : Int} (h : Asc o hi) : 0 ≤ nowC o ∧ nowC o ≤ 1000000 := by
  unfold nowC
  cases e : o.getLast? with
  | none => simp
  | some a => have := h.bd a (List.mem_of_getLast? e); simp; omega
theorem nowC_snoc (o : List (Int × Int)) (t n : Int) : nowC (o ++ [(t, n)]) = n := by simp [nowC]
theorem setC_now (c : Crd) (t n : Int) : nowC (setC c t n).1 = n := by
  unfold setC
  split
  · rename_i h; exact h.symm
  · exact nowC_snoc _ _ _
theorem setC_sum {c : Crd} {t n : Int} (h : n ≠ nowC c.1) : c.2 < (setC c t n).2 := by
  unfold setC; rw [if_neg h]; simp only; omega
theorem setC_asc {c : Crd} {hi t n : Int} (h : Asc c.1 hi) (ht : hi ≤ t) (h0 : 0 ≤ t) (hn : 0 ≤ n) (hn2 : n ≤ 1000000) : Asc (setC c t n).1 (t + 1) := by
  unfold setC
  split
  · exact h.mono (by omega)
  · exact h.snoc ht h0 hn hn2
theorem setC_le {c : Crd} {hi t n : Int} (h : Asc c.1 hi) (hn : 0 ≤ n) (hn2 : n ≤ 1000000) : c.2 ≤ (setC c t n).2 ∧ (setC c t n).2 ≤ c.2 + 1000000 := by
  have := h.now
  unfold setC
  split
  · omega
  · simp only; omega
theorem setC_len (c : Crd) (t n : Int) : ((setC c t n).1.length : Int) - c.1.length ≤ (setC c t n).2 - c.2 ∧ c.1.length ≤ (setC c t n).1.length := by
  unfold setC
  split
  · omega
  · rename_i h
    simp only [List.length_append, List.length_singleton]; omega
/-- what the loop of a stage keeps: the number is that of a place; the changes are ascending -/
structure InSt (s : Int × Int × Int) (b : Int) (n : Int) (c : Crd) (p : Int) : Prop where
  p0 : 0 ≤ p
  p1 : p < s.1
  num : n = numS s p
  now : nowC c.1 = n
  asc : Asc c.1 (b + p + 1)
theorem num_range {s : Int × Int × Int} (h : OkU s) {p : Int} (h0 : 0 ≤ p) (h1 : p ≤ s.1) : 0 ≤ numS s p ∧ numS s p ≤ 1000000 := by
  obtain ⟨F, x, y⟩ := s
  have hb := num_bd h h0 h1
  obtain ⟨o1, o2, o3, o4, o5, o6⟩ := h
  simp only at *
  by_cases hxy : x ≤ y
  · have := hb.1 hxy; omega
  · have := hb.2 hxy; omega
theorem in_next {s : Int × Int × Int} {b n p : Int} {c : Crd} (h : OkU s) (hb : 0 ≤ b) (hi : InSt s b n c p) (hxy : s.2.1 ≠ s.2.2) (hne : n ≠ s.2.2 / 1000) (hlt : ¬ s.1 ≤ nextS s n) :
    InSt s b (numS s (nextS s n)) (setC c (b + nextS s n) (numS s (nextS s n))) (nextS s n) ∧ c.2 < (setC c (b + nextS s n) (numS s (nextS s n))).2 := by
  obtain ⟨F, x, y⟩ := s
  simp only at hxy hne hlt
  have hnb := next_bd (F := F) (x := x) (y := y) h hi.p0 hi.p1 hi.num hxy hne
  have p0 := hi.p0
  have hr := num_range h (p := nextS (F, x, y) n) (by have := hnb.1; omega) (by simp only; omega)
  refine ⟨⟨by have := hnb.1; omega, by simp only; omega, rfl, setC_now _ _ _, setC_asc hi.asc (by have := hnb.1; omega) (by have := hnb.1; omega) hr.1 hr.2⟩, setC_sum ?_⟩
  rw [hi.now]; exact hnb.2.2.1
theorem step_asc {s : Int × Int × Int} {b : Int} (h : OkU s) (hb : 0 ≤ b) : ∀ (f : Nat) (n : Int) (c : Crd) (p : Int), InSt s b n c p → Asc (stepC s b f n c).1 (b + s.1) ∧ c.2 ≤ (stepC s b f n c).2
  | 0, n, c, p, hi => ⟨hi.asc.mono (by have := hi.p1; omega), Int.le_refl _⟩
  | f + 1, n, c, p, hi => by
    unfold stepC
    split
    · rename_i hc
      split
      · exact ⟨hi.asc.mono (by have := hi.p1; omega), Int.le_refl _⟩
      · rename_i hlt
        have h1 := in_next h hb hi hc.2.1 hc.2.2 hlt
        have ih := step_asc h hb f _ _ _ h1.1
        exact ⟨ih.1, by have := h1.2; omega⟩
    · exact ⟨hi.asc.mono (by have := hi.p1; omega), Int.le_refl _⟩
theorem stage_in {s : Int × Int × Int} {b : Int} {c : Crd} (h : OkU s) (hb : 0 ≤ b) (ha : Asc c.1 b) : InSt s b (s.2.1 / 1000) (setC c b (s.2.1 / 1000)) 0 := by
  have h' := h
  obtain ⟨o1, o2, o3, o4, o5, o6⟩ := h'
  refine ⟨Int.le_refl _, by omega, (num_zero (F := s.1) (by omega)).symm, setC_now _ _ _, ?_⟩
  have := setC_asc (t := b) (n := s.2.1 / 1000) ha (Int.le_refl _) hb (by omega) (by omega)
  rwa [Int.add_zero]
theorem stage_asc {s : Int × Int × Int} {b : Int} {c : Crd} (h : OkU s) (hb : 0 ≤ b) (ha : Asc c.1 b) : Asc (stageC c s b).1 (b + s.1) ∧ c.2 ≤ (stageC c s b).2 := by
  have h1 := step_asc h hb 10002 _ _ _ (stage_in h hb ha)
  have o := h
  obtain ⟨o1, o2, o3, o4, o5, o6⟩ := o
  have h2 := (setC_le (t := b) (n := s.2.1 / 1000) ha (by omega) (by omega)).1
  exact ⟨h1.1, by unfold stageC; omega⟩
end Go.Proofs.Ytajokainammahaa
