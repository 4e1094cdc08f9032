import Derived.Test.YtnpfdelklolchaaGreatDoorG35
import Derived.Test.YtnpfdelklolchaaGreatDoorG29
import Derived.Test.YtnpfdelklolchaaGreatDoorG1
/- Changes: the common number, the order of divisions as the program asks for it, and how great the costs are: plain. -/
namespace Go.Proofs.YtnpfdelklolchaaGreatDoor
open Go

/-- the least number that all numbers up to n divide -/
def cmn : Nat → Nat
  | 0 => 1
  | n + 1 => cmn n * ((n + 1) / Nat.gcd (cmn n) (n + 1))
theorem cmn_pos : ∀ n, 0 < cmn n
  | 0 => Nat.one_pos
  | n + 1 => by
    have h := cmn_pos n
    have hg : 0 < Nat.gcd (cmn n) (n + 1) := Nat.gcd_pos_of_pos_left _ h
    have hd : Nat.gcd (cmn n) (n + 1) ≤ n + 1 := Nat.le_of_dvd (by omega) (Nat.gcd_dvd_right _ _)
    have : 0 < (n + 1) / Nat.gcd (cmn n) (n + 1) := Nat.div_pos hd hg
    exact Nat.mul_pos h this
theorem cmn_last (n : Nat) : (n + 1) ∣ cmn (n + 1) := by
  have h1 := Nat.gcd_dvd_left (cmn n) (n + 1)
  have h2 := Nat.gcd_dvd_right (cmn n) (n + 1)
  have hg : 0 < Nat.gcd (cmn n) (n + 1) := Nat.gcd_pos_of_pos_left _ (cmn_pos n)
  rw [cmn]
  generalize Nat.gcd (cmn n) (n + 1) = g at *
  obtain ⟨a, ha⟩ := h1
  obtain ⟨b, hb⟩ := h2
  rw [hb, ha, Nat.mul_div_cancel_left _ hg]
  exact ⟨a, by rw [Nat.mul_assoc, Nat.mul_comm a b, ← Nat.mul_assoc]⟩
theorem cmn_mono : ∀ {m n : Nat}, m ≤ n → cmn m ∣ cmn n
  | m, 0, h => by
    obtain rfl : m = 0 := by omega
    exact Nat.dvd_refl _
  | m, n + 1, h => by
    rcases Nat.lt_or_ge m (n + 1) with h1 | h1
    · exact Nat.dvd_trans (cmn_mono (show m ≤ n by omega)) (by rw [cmn]; exact Nat.dvd_mul_right _ _)
    · obtain rfl : m = n + 1 := by omega
      exact Nat.dvd_refl _
theorem cmn_dvd {k n : Nat} (h1 : 1 ≤ k) (h2 : k ≤ n) : k ∣ cmn n := by
  obtain ⟨m, rfl⟩ : ∃ m, k = m + 1 := ⟨k - 1, by omega⟩
  exact Nat.dvd_trans (cmn_last m) (cmn_mono h2)
set_option maxRecDepth 100000 in
theorem cmn_300 : cmn 300 < 18446744073709551616 ^ 7 ∧ cmn 300 < 10000 ^ 34 := by decide +kernel
theorem cmn_small {n : Nat} (h : n ≤ 300) : cmn n < 18446744073709551616 ^ 7 ∧ cmn n < 10000 ^ 34 :=
  ⟨Nat.lt_of_le_of_lt (Nat.le_of_dvd (cmn_pos _) (cmn_mono h)) cmn_300.1, Nat.lt_of_le_of_lt (Nat.le_of_dvd (cmn_pos _) (cmn_mono h)) cmn_300.2⟩

theorem cmn_next {k : Nat} (h : 1 ≤ k) : cmn (k - 1) * (k / Nat.gcd (cmn (k - 1)) k) = cmn k := by
  obtain ⟨m, rfl⟩ : ∃ m, k = m + 1 := ⟨k - 1, by omega⟩
  rw [Nat.add_sub_cancel, cmn]
theorem cmn_gcd {k : Nat} : 0 < Nat.gcd (cmn (k - 1)) k := Nat.gcd_pos_of_pos_left _ (cmn_pos _)

/-- as slices.Compare tells of two lists -/
def cmpL : List Nat → List Nat → Int
  | [], [] => 0
  | [], _ :: _ => -1
  | _ :: _, [] => 1
  | x :: a, y :: b => if x < y then -1 else if y < x then 1 else cmpL a b
theorem cmpL_neg : ∀ {a b : List Nat}, a.length = b.length → cmpL a b < 0 → lexL a b
  | [], [], _, _ => trivial
  | [], _ :: _, h, _ => absurd h (by simp)
  | _ :: _, [], h, _ => absurd h (by simp)
  | x :: a, y :: b, h, hc => by
    unfold cmpL at hc
    by_cases h1 : x < y
    · exact .inl h1
    · rw [if_neg h1] at hc
      by_cases h2 : y < x
      · rw [if_pos h2] at hc; exact absurd hc (by decide)
      · rw [if_neg h2] at hc
        exact .inr ⟨by omega, cmpL_neg (by simpa using h) hc⟩
theorem cmpL_nn : ∀ {a b : List Nat}, a.length = b.length → ¬ cmpL a b < 0 → lexL b a
  | [], [], _, _ => trivial
  | [], _ :: _, h, _ => absurd h (by simp)
  | _ :: _, [], h, _ => absurd h (by simp)
  | x :: a, y :: b, h, hc => by
    unfold cmpL at hc
    by_cases h1 : x < y
    · rw [if_pos h1] at hc; exact absurd (by decide) hc
    · rw [if_neg h1] at hc
      by_cases h2 : y < x
      · exact .inl h2
      · rw [if_neg h2] at hc
        exact .inr ⟨by omega, cmpL_nn (by simpa using h) hc⟩
/-- the first division is better -/
def betK (x y : Nat × List Nat) : Bool := decide (x.1 < y.1 ∨ (x.1 = y.1 ∧ (x.2.length < y.2.length ∨ (x.2.length = y.2.length ∧ cmpL x.2 y.2 < 0))))
theorem betK_true {x y : Nat × List Nat} (h : betK x y = true) : leK x y := by
  unfold betK at h
  rcases of_decide_eq_true h with h | ⟨h, h' | ⟨h', h''⟩⟩
  · exact .inl h
  · exact .inr ⟨h, .inl h'⟩
  · exact .inr ⟨h, .inr ⟨h', cmpL_neg h' h''⟩⟩
theorem betK_false {x y : Nat × List Nat} (h : betK x y = false) : leK y x := by
  unfold betK at h
  have h := of_decide_eq_false h
  rcases Nat.lt_trichotomy x.1 y.1 with h1 | h1 | h1
  · exact absurd (.inl h1) h
  · rcases Nat.lt_trichotomy x.2.length y.2.length with h2 | h2 | h2
    · exact absurd (.inr ⟨h1, .inl h2⟩) h
    · refine .inr ⟨h1.symm, .inr ⟨h2.symm, cmpL_nn h2 fun h3 => ?_⟩⟩
      exact h (.inr ⟨h1, .inr ⟨h2, h3⟩⟩)
    · exact .inr ⟨h1.symm, .inl h2⟩
  · exact .inl h1
/-- the better one of two -/
def pickK (x y : Nat × List Nat) : Nat × List Nat := if betK x y then x else y
theorem pickK_or (x y : Nat × List Nat) : (leK x y ∧ pickK x y = x) ∨ (leK y x ∧ pickK x y = y) := by
  unfold pickK
  cases h : betK x y with
  | true => exact .inl ⟨betK_true h, rfl⟩
  | false => exact .inr ⟨betK_false h, by simp⟩

section
variable (c : Nat → Nat → Nat) (E : Nat)
/-- the best division of [0, j) by its last places: what is found when the places from m on have been tried; T: the best ones of shorter beginnings -/
def runL (T : Nat → Nat × List Nat) (j : Nat) : Nat → Nat × List Nat
  | 0 => candL c E 0 j (j - 1) (T (j - 1))
  | s + 1 => pickK (candL c E 0 j (j - 1 - (s + 1)) (T (j - 1 - (s + 1)))) (runL T j s)
theorem runL_min {T : Nat → Nat × List Nat} {j : Nat} (hj : 0 < j) (hT : ∀ k, 0 < k → k < j → IsMin c E 0 k (T k)) : ∀ s, s < j → IsMinL c E 0 j (j - 1 - s) (runL c E T j s)
  | 0, _ => IsMinL.start c E hj (fun h => hT _ h (by omega))
  | s + 1, h => by
    have ih := runL_min hj hT s (by omega)
    have e : j - 1 - s = j - 1 - (s + 1) + 1 := by omega
    rw [e] at ih
    exact ih.step c E (Nat.zero_le _) (by omega) (fun h1 => hT _ h1 (by omega)) (pickK_or _ _)
/-- the best division of [0, j): as the program finds it -/
def bestL : Nat → Nat × List Nat := fun j => (go (j + 1)).2 j
where
  go : Nat → Unit × (Nat → Nat × List Nat)
    | 0 => ((), fun _ => (0, []))
    | n + 1 => ((), fun k => if k = n then (if n = 0 then (0, []) else runL c E (go n).2 n (n - 1)) else (go n).2 k)
theorem bestL.go_old {n k : Nat} (h : k < n) : ∀ m, n ≤ m → (bestL.go c E m).2 k = (bestL.go c E n).2 k
  | 0, hm => by omega
  | m + 1, hm => by
    rcases Nat.lt_or_ge m n with h1 | h1
    · obtain rfl : n = m + 1 := by omega
      rfl
    · have ih := bestL.go_old h m h1
      rw [← ih]
      show (if k = m then _ else (bestL.go c E m).2 k) = _
      rw [if_neg (by omega)]
theorem bestL_go {n k : Nat} (h : k < n) : (bestL.go c E n).2 k = bestL c E k := (bestL.go_old c E (Nat.lt_succ_self k) n h)
theorem bestL_zero : bestL c E 0 = (0, []) := rfl
theorem runL_congr {T U : Nat → Nat × List Nat} {j : Nat} (hj : 0 < j) (h : ∀ k, k < j → T k = U k) : ∀ s, runL c E T j s = runL c E U j s
  | 0 => by unfold runL; rw [h _ (by omega)]
  | s + 1 => by unfold runL; rw [h _ (by omega), runL_congr hj h s]
theorem bestL_step {j : Nat} (hj : 0 < j) : bestL c E j = runL c E (bestL c E) j (j - 1) := by
  show (if j = j then (if j = 0 then (0, []) else runL c E (bestL.go c E j).2 j (j - 1)) else (bestL.go c E j).2 j) = _
  rw [if_pos rfl, if_neg (by omega)]
  exact runL_congr c E hj (fun k hk => bestL_go c E hk) _
theorem bestL_min : ∀ (n j : Nat), j ≤ n → 0 < j → IsMin c E 0 j (bestL c E j)
  | 0, j, h, hj => by omega
  | n + 1, j, h, hj => by
    rw [bestL_step c E hj]
    have := runL_min c E hj (T := bestL c E) (fun k h1 h2 => bestL_min n k (by omega) h1) (j - 1) (by omega)
    rw [show j - 1 - (j - 1) = 0 by omega] at this
    exact this.done
theorem IsMin.le_whole {i j : Nat} {x : Nat × List Nat} (h : IsMin c E i j x) : x.1 ≤ c i j := by
  have := h.2.2 [] trivial
  rcases this with h1 | ⟨h1, _⟩
  · exact Nat.le_of_lt h1
  · exact Nat.le_of_eq h1
end
theorem Val.length_le : ∀ {i j : Nat} {r : List Nat}, Val i j r → i < j → r.length + i < j
  | i, j, [], _, h => by simpa using h
  | i, j, k :: r, hv, _ => by
    have := Val.length_le hv.2.2 hv.2.1
    have := hv.1
    simp only [List.length_cons]; omega
/-- a sum of squares of small numbers is small -/
theorem sqs_le {M : Nat} : ∀ {l : List Int}, (∀ z ∈ l, z.natAbs ≤ M) → (sqs l).toNat ≤ l.length * (M * M)
  | [], _ => by simp [sqs]
  | x :: l, h => by
    have ih := sqs_le (l := l) fun z hz => h z (by simp [hz])
    have e : sqs (x :: l) = x * x + sqs l := by simp [sqs]
    have h1 := sq_nonneg x
    have h2 := sqs_nonneg l
    have h3 : x.natAbs * x.natAbs ≤ M * M := Nat.mul_le_mul (h x (by simp)) (h x (by simp))
    have h4 := natAbs_sq x
    rw [e, List.length_cons, Nat.succ_mul]
    omega
theorem segL_mem {l : List Int} {i j : Nat} {z : Int} (h : z ∈ segL l i j) : z ∈ l := by
  unfold segL at h
  exact List.mem_of_mem_drop (List.mem_of_mem_take h)
theorem cS_le {l : List Int} {D i j M : Nat} (h : ∀ z ∈ l, z.natAbs ≤ M) (hj : j ≤ l.length) : cS l D i j ≤ D * ((j - i) * (M * M)) := by
  unfold cS
  have h1 := sqs_le (l := segL l i j) fun z hz => h z (segL_mem hz)
  rw [segL_length hj] at h1
  exact Nat.le_trans (Nat.sub_le _ _) (Nat.mul_le_mul_left _ h1)
end Go.Proofs.YtnpfdelklolchaaGreatDoor

/- Lines through points: bounds, parts of the list. Plain. -/
namespace Go.Proofs.YtnpfdelklolchaaGreatDoor
open Go Go.RowKit Go.Proofs

def OkP (l : List (Int × Int)) : Prop := ∀ p ∈ l, (-1000000 ≤ p.1 ∧ p.1 ≤ 1000000) ∧ (-1000000 ≤ p.2 ∧ p.2 ≤ 1000000)
theorem OkP.take {l : List (Int × Int)} (h : OkP l) (i : Nat) : OkP (l.take i) := fun p hp => h p (List.mem_of_mem_take hp)
theorem OkP.drop {l : List (Int × Int)} (h : OkP l) (i : Nat) : OkP (l.drop i) := fun p hp => h p (List.mem_of_mem_drop hp)
/-- the bounds of all sums -/
structure BndP (l : List (Int × Int)) : Prop where
  n : l.length ≤ 300
  x1 : -300000000 ≤ pX l
  x2 : pX l ≤ 300000000
  y1 : -300000000 ≤ pY l
  y2 : pY l ≤ 300000000
  xx1 : -300000000000000 ≤ pXX l
  xx2 : pXX l ≤ 300000000000000
  xy1 : -300000000000000 ≤ pXY l
  xy2 : pXY l ≤ 300000000000000
  yy1 : -300000000000000 ≤ pYY l
  yy2 : pYY l ≤ 300000000000000
/-- what checkPoints tells -/
def okZ (l : List Int) : Bool := l.all fun x => decide (-1000000 ≤ x) && decide (x ≤ 1000000)
theorem okZ_mem {l : List Int} (h : okZ l = true) {x : Int} (hx : x ∈ l) : -1000000 ≤ x ∧ x ≤ 1000000 := by
  have := List.all_eq_true.1 h x hx
  simpa using this
end Go.Proofs.YtnpfdelklolchaaGreatDoor

/- What Changes returns: plain. -/
namespace Go.Proofs.YtnpfdelklolchaaGreatDoor
open Go

/-- the costs of the parts of a list, times the common number -/
abbrev chc (l : List Int) : Nat → Nat → Nat := cS l (cmn l.length)
/-- the penalty, times the common number -/
abbrev chE (l : List Int) (pen : Int) : Nat := cmn l.length * pen.toNat
/-- the best division -/
def chB (l : List Int) (pen : Int) : Nat × List Nat := bestL (chc l) (chE l pen) l.length
/-- its cost -/
def chQ (l : List Int) (pen : Int) : Rat := mkRat ((chB l pen).1 : Int) (cmn l.length)
/-- the error's number -/
def chC (l : List Int) (pen : Int) : Int :=
  if l.length = 0 then 13 else if 300 < l.length then 3 else if okZ l = true then (if 0 ≤ pen ∧ pen ≤ 1000000000000000 then rtC (chQ l pen) else 9) else 9
section
variable {l : List Int} {pen : Int}
theorem chB_min (h : 0 < l.length) : IsMin (chc l) (chE l pen) 0 l.length (chB l pen) := bestL_min _ _ l.length l.length (Nat.le_refl _) h
theorem okZ_abs (h : okZ l = true) : ∀ z ∈ l, z.natAbs ≤ 1000000 := fun z hz => by have := okZ_mem h hz; omega
theorem chc_le (h : okZ l = true) (hl : l.length ≤ 300) {i j : Nat} (hj : j ≤ l.length) : chc l i j ≤ cmn l.length * 300000000000000 := by
  have h1 := cS_le (D := cmn l.length) (i := i) (okZ_abs h) hj
  exact Nat.le_trans h1 (Nat.mul_le_mul_left _ (by omega))
theorem chE_le (hp : pen ≤ 1000000000000000) : chE l pen ≤ cmn l.length * 1000000000000000 := Nat.mul_le_mul_left _ (by omega)
/-- what is added up stays below 8 words -/
theorem ch_small (hl : l.length ≤ 300) {x : Nat} (hx : x ≤ cmn l.length * 4000000000000000) : x < 18446744073709551616 ^ 8 := by
  refine Nat.lt_of_le_of_lt hx ?_
  rw [Nat.pow_succ]
  exact Nat.mul_lt_mul'' (cmn_small hl).1 (by omega)
theorem best_le (h : okZ l = true) (hl : l.length ≤ 300) {k : Nat} (hk : k ≤ l.length) : (bestL (chc l) (chE l pen) k).1 ≤ cmn l.length * 300000000000000 := by
  rcases Nat.eq_zero_or_pos k with rfl | h0
  · rw [bestL_zero]; exact Nat.zero_le _
  · exact Nat.le_trans (IsMin.le_whole _ _ (bestL_min _ _ k k (Nat.le_refl _) h0)) (chc_le h hl hk)
theorem best_len {k : Nat} (hl : k ≤ 300) : (bestL (chc l) (chE l pen) k).2.length ≤ 300 := by
  rcases Nat.eq_zero_or_pos k with rfl | h0
  · rw [bestL_zero]; exact Nat.zero_le _
  · have := Val.length_le (bestL_min (chc l) (chE l pen) k k (Nat.le_refl _) h0).1 h0
    omega
theorem chB_places (h : 0 < l.length) : Val 0 l.length (chB l pen).2 := (chB_min h).1
/-- the cost as a fraction -/
theorem chQ_cost (h : 0 < l.length) (hp : 0 ≤ pen) : chQ l pen = costR l pen.toNat 0 (chB l pen).2 := by
  have hD := cmn_pos l.length
  have h1 := (chB_min (pen := pen) h).2.1
  have h2 := cst_rat (l := l) (D := cmn l.length) (pen := pen.toNat) hD (fun k g1 g2 => cmn_dvd g1 g2) (chB l pen).2 0 h (chB_places h)
  have h3 : ((chB l pen).1 : Rat) = (cmn l.length : Rat) * costR l pen.toNat 0 (chB l pen).2 := by rw [h1]; exact h2
  have hn : ((cmn l.length : Nat) : Rat) ≠ 0 := natR_ne0 hD
  unfold chQ
  rw [Rat.mkRat_eq_div]
  have e : (((chB l pen).1 : Int) : Rat) = ((chB l pen).1 : Rat) := rfl
  have e2 : (((cmn l.length : Nat) : Int) : Rat) = ((cmn l.length : Nat) : Rat) := rfl
  rw [e, h3]
  try rw [e2]
  generalize ((cmn l.length : Nat) : Rat) = d at *
  have hdd : d * d⁻¹ = 1 := Rat.mul_inv_cancel _ hn
  rw [Rat.div_def]
  grind
theorem chC_empty (h : l.length = 0) : chC l pen = 13 := by unfold chC; rw [if_pos h]
theorem chC_long (h : 300 < l.length) : chC l pen = 3 := by unfold chC; rw [if_neg (by omega), if_pos h]
theorem chC_bad (h : 0 < l.length) (h2 : l.length ≤ 300) (h3 : ¬ okZ l = true) : chC l pen = 9 := by unfold chC; rw [if_neg (by omega), if_neg (by omega), if_neg h3]
theorem chC_rng (h : 0 < l.length) (h2 : l.length ≤ 300) (h3 : okZ l = true) (h4 : ¬ (0 ≤ pen ∧ pen ≤ 1000000000000000)) : chC l pen = 9 := by unfold chC; rw [if_neg (by omega), if_neg (by omega), if_pos h3, if_neg h4]
theorem chC_ok (h : 0 < l.length) (h2 : l.length ≤ 300) (h3 : okZ l = true) (h4 : 0 ≤ pen ∧ pen ≤ 1000000000000000) : chC l pen = rtC (chQ l pen) := by unfold chC; rw [if_neg (by omega), if_neg (by omega), if_pos h3, if_pos h4]
end
end Go.Proofs.YtnpfdelklolchaaGreatDoor
