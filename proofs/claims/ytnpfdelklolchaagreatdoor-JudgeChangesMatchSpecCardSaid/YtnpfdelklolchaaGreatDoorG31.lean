import Derived.Test.YtnpfdelklolchaaGreatDoorG1
import Derived.Test.YtnpfdelklolchaaGreatDoorG30
/- Lines through points: plain. -/
namespace Go.Proofs.YtnpfdelklolchaaGreatDoor
open Go

/-- the sums of points -/
def pX (l : List (Int × Int)) : Int := (l.map (·.1)).sum
def pY (l : List (Int × Int)) : Int := (l.map (·.2)).sum
def pXX (l : List (Int × Int)) : Int := (l.map fun p => p.1 * p.1).sum
def pXY (l : List (Int × Int)) : Int := (l.map fun p => p.1 * p.2).sum
def pYY (l : List (Int × Int)) : Int := (l.map fun p => p.2 * p.2).sum
/-- squares and spreads of a list of numbers -/
def sqs (l : List Int) : Int := (l.map fun z => z * z).sum
def vZ (l : List Int) : Int := (l.length : Int) * sqs l - l.sum * l.sum
def dsq (x : Int) (l : List Int) : Int := (l.map fun z => (z - x) * (z - x)).sum
theorem sq_nonneg (a : Int) : 0 ≤ a * a := by
  rcases Int.le_total 0 a with h | h
  · exact Int.mul_nonneg h h
  · have := Int.mul_nonneg (a := -a) (b := -a) (by omega) (by omega)
    rwa [Int.neg_mul_neg] at this
theorem dsq_eq (x : Int) : ∀ l : List Int, dsq x l = sqs l - 2 * x * l.sum + (l.length : Int) * (x * x)
  | [] => by simp [dsq, sqs]
  | z :: l => by
    have ih := dsq_eq x l
    unfold dsq sqs at *
    simp only [List.map_cons, List.sum_cons, List.length_cons, Int.natCast_add, Int.natCast_one] at *
    grind
theorem dsq_nonneg (x : Int) : ∀ l : List Int, 0 ≤ dsq x l
  | [] => by simp [dsq]
  | z :: l => by
    have ih := dsq_nonneg x l
    have h := sq_nonneg (z - x)
    have e : dsq x (z :: l) = (z - x) * (z - x) + dsq x l := by simp [dsq]
    omega
theorem vZ_cons (x : Int) (l : List Int) : vZ (x :: l) = vZ l + dsq x l := by
  rw [dsq_eq]
  unfold vZ sqs
  simp only [List.map_cons, List.sum_cons, List.length_cons, Int.natCast_add, Int.natCast_one]
  grind
theorem vZ_nonneg : ∀ l : List Int, 0 ≤ vZ l
  | [] => by simp [vZ, sqs]
  | x :: l => by
    have := vZ_nonneg l
    have := dsq_nonneg x l
    rw [vZ_cons]; omega
end Go.Proofs.YtnpfdelklolchaaGreatDoor

/- The costs of divisions: plain. -/
namespace Go.Proofs.YtnpfdelklolchaaGreatDoor
open Go

/-- a part of a list -/
def segL (l : List Int) (i j : Nat) : List Int := (l.drop i).take (j - i)
theorem segL_length {l : List Int} {i j : Nat} (hj : j ≤ l.length) : (segL l i j).length = j - i := by
  unfold segL; rw [List.length_take, List.length_drop]; omega
theorem sqs_nonneg : ∀ l : List Int, 0 ≤ sqs l
  | [] => by simp [sqs]
  | x :: l => by
    have h1 := sqs_nonneg l
    have h2 := sq_nonneg x
    have e : sqs (x :: l) = x * x + sqs l := by simp [sqs]
    omega
theorem natAbs_sq (s : Int) : ((s.natAbs * s.natAbs : Nat) : Int) = s * s := by
  rw [Int.natCast_mul, Int.natAbs_mul_self']
/-- D times the sum of the squared differences from the mean -/
def cS (l : List Int) (D i j : Nat) : Nat := D * (sqs (segL l i j)).toNat - D / (j - i) * ((segL l i j).sum.natAbs * (segL l i j).sum.natAbs)
/-- what is taken away is not too much -/
theorem cS_sub {l : List Int} {D i j : Nat} (hij : i < j) (hj : j ≤ l.length) (hd : (j - i) ∣ D) : D / (j - i) * ((segL l i j).sum.natAbs * (segL l i j).sum.natAbs) ≤ D * (sqs (segL l i j)).toNat := by
  have h1 := vZ_nonneg (segL l i j)
  unfold vZ at h1
  rw [segL_length hj] at h1
  have h2 := sqs_nonneg (segL l i j)
  obtain ⟨k, rfl⟩ := hd
  rw [Nat.mul_div_cancel_left _ (by omega)]
  have h3 : (segL l i j).sum.natAbs * (segL l i j).sum.natAbs ≤ (j - i) * (sqs (segL l i j)).toNat := by
    have e1 := natAbs_sq (segL l i j).sum
    have e2 : (((j - i) * (sqs (segL l i j)).toNat : Nat) : Int) = ((j - i : Nat) : Int) * sqs (segL l i j) := by rw [Int.natCast_mul, Int.toNat_of_nonneg h2]
    omega
  calc k * ((segL l i j).sum.natAbs * (segL l i j).sum.natAbs) ≤ k * ((j - i) * (sqs (segL l i j)).toNat) := Nat.mul_le_mul_left _ h3
    _ = (j - i) * k * (sqs (segL l i j)).toNat := by rw [← Nat.mul_assoc, Nat.mul_comm k]
end Go.Proofs.YtnpfdelklolchaaGreatDoor

/- Changes: the common number, the order of divisions as the program asks for it, and how great the costs are: plain. -/
namespace Go.Proofs.YtnpfdelklolchaaGreatDoor
open Go

/-- the least number that all numbers up to n divide -/
def cmn : Nat → Nat
  | 0 => 1
  | n + 1 => cmn n * ((n + 1) / Nat.gcd (cmn n) (n + 1))
theorem cmn_pos : ∀ n, 0 < cmn n
  | 0 => Nat.one_pos
  | n + 1 => by
    have h := cmn_pos n
    have hg : 0 < Nat.gcd (cmn n) (n + 1) := Nat.gcd_pos_of_pos_left _ h
    have hd : Nat.gcd (cmn n) (n + 1) ≤ n + 1 := Nat.le_of_dvd (by omega) (Nat.gcd_dvd_right _ _)
    have : 0 < (n + 1) / Nat.gcd (cmn n) (n + 1) := Nat.div_pos hd hg
    exact Nat.mul_pos h this
theorem cmn_last (n : Nat) : (n + 1) ∣ cmn (n + 1) := by
  have h1 := Nat.gcd_dvd_left (cmn n) (n + 1)
  have h2 := Nat.gcd_dvd_right (cmn n) (n + 1)
  have hg : 0 < Nat.gcd (cmn n) (n + 1) := Nat.gcd_pos_of_pos_left _ (cmn_pos n)
  rw [cmn]
  generalize Nat.gcd (cmn n) (n + 1) = g at *
  obtain ⟨a, ha⟩ := h1
  obtain ⟨b, hb⟩ := h2
  rw [hb, ha, Nat.mul_div_cancel_left _ hg]
  exact ⟨a, by rw [Nat.mul_assoc, Nat.mul_comm a b, ← Nat.mul_assoc]⟩
theorem cmn_mono : ∀ {m n : Nat}, m ≤ n → cmn m ∣ cmn n
  | m, 0, h => by
    obtain rfl : m = 0 := by omega
    exact Nat.dvd_refl _
  | m, n + 1, h => by
    rcases Nat.lt_or_ge m (n + 1) with h1 | h1
    · exact Nat.dvd_trans (cmn_mono (show m ≤ n by omega)) (by rw [cmn]; exact Nat.dvd_mul_right _ _)
    · obtain rfl : m = n + 1 := by omega
      exact Nat.dvd_refl _
theorem cmn_dvd {k n : Nat} (h1 : 1 ≤ k) (h2 : k ≤ n) : k ∣ cmn n := by
  obtain ⟨m, rfl⟩ : ∃ m, k = m + 1 := ⟨k - 1, by omega⟩
  exact Nat.dvd_trans (cmn_last m) (cmn_mono h2)
set_option maxRecDepth 100000 in
theorem cmn_300 : cmn 300 < 18446744073709551616 ^ 7 ∧ cmn 300 < 10000 ^ 34 := by decide +kernel
theorem cmn_small {n : Nat} (h : n ≤ 300) : cmn n < 18446744073709551616 ^ 7 ∧ cmn n < 10000 ^ 34 :=
  ⟨Nat.lt_of_le_of_lt (Nat.le_of_dvd (cmn_pos _) (cmn_mono h)) cmn_300.1, Nat.lt_of_le_of_lt (Nat.le_of_dvd (cmn_pos _) (cmn_mono h)) cmn_300.2⟩

theorem cmn_next {k : Nat} (h : 1 ≤ k) : cmn (k - 1) * (k / Nat.gcd (cmn (k - 1)) k) = cmn k := by
  obtain ⟨m, rfl⟩ : ∃ m, k = m + 1 := ⟨k - 1, by omega⟩
  rw [Nat.add_sub_cancel, cmn]
theorem cmn_gcd {k : Nat} : 0 < Nat.gcd (cmn (k - 1)) k := Nat.gcd_pos_of_pos_left _ (cmn_pos _)

/-- as slices.Compare tells of two lists -/
def cmpL : List Nat → List Nat → Int
  | [], [] => 0
  | [], _ :: _ => -1
  | _ :: _, [] => 1
  | x :: a, y :: b => if x < y then -1 else if y < x then 1 else cmpL a b
theorem cmpL_neg : ∀ {a b : List Nat}, a.length = b.length → cmpL a b < 0 → lexL a b
  | [], [], _, _ => trivial
  | [], _ :: _, h, _ => absurd h (by simp)
  | _ :: _, [], h, _ => absurd h (by simp)
  | x :: a, y :: b, h, hc => by
    unfold cmpL at hc
    by_cases h1 : x < y
    · exact .inl h1
    · rw [if_neg h1] at hc
      by_cases h2 : y < x
      · rw [if_pos h2] at hc; exact absurd hc (by decide)
      · rw [if_neg h2] at hc
        exact .inr ⟨by omega, cmpL_neg (by simpa using h) hc⟩
theorem cmpL_nn : ∀ {a b : List Nat}, a.length = b.length → ¬ cmpL a b < 0 → lexL b a
  | [], [], _, _ => trivial
  | [], _ :: _, h, _ => absurd h (by simp)
  | _ :: _, [], h, _ => absurd h (by simp)
  | x :: a, y :: b, h, hc => by
    unfold cmpL at hc
    by_cases h1 : x < y
    · rw [if_pos h1] at hc; exact absurd (by decide) hc
    · rw [if_neg h1] at hc
      by_cases h2 : y < x
      · exact .inl h2
      · rw [if_neg h2] at hc
        exact .inr ⟨by omega, cmpL_nn (by simpa using h) hc⟩
/-- as the reference's before tells of two lists -/
def befL : List Nat → List Nat → Bool
  | [], b => decide (0 < b.length)
  | _ :: _, [] => false
  | x :: a, y :: b => if x ≠ y then decide (x < y) else befL a b
theorem befL_eq : ∀ {a b : List Nat}, a.length = b.length → befL a b = decide (cmpL a b < 0)
  | [], [], _ => rfl
  | [], _ :: _, h => absurd h (by simp)
  | _ :: _, [], h => absurd h (by simp)
  | x :: a, y :: b, h => by
    unfold befL cmpL
    by_cases h1 : x < y
    · rw [if_pos (show x ≠ y by omega), if_pos h1]; simp [h1]
    · by_cases h2 : y < x
      · rw [if_pos (show x ≠ y by omega), if_neg h1, if_pos h2]; simp; omega
      · rw [if_neg (show ¬ x ≠ y by omega), if_neg h1, if_neg h2]
        exact befL_eq (by simpa using h)
/-- the first division is better -/
def betK (x y : Nat × List Nat) : Bool := decide (x.1 < y.1 ∨ (x.1 = y.1 ∧ (x.2.length < y.2.length ∨ (x.2.length = y.2.length ∧ cmpL x.2 y.2 < 0))))
theorem betK_true {x y : Nat × List Nat} (h : betK x y = true) : leK x y := by
  unfold betK at h
  rcases of_decide_eq_true h with h | ⟨h, h' | ⟨h', h''⟩⟩
  · exact .inl h
  · exact .inr ⟨h, .inl h'⟩
  · exact .inr ⟨h, .inr ⟨h', cmpL_neg h' h''⟩⟩
theorem betK_false {x y : Nat × List Nat} (h : betK x y = false) : leK y x := by
  unfold betK at h
  have h := of_decide_eq_false h
  rcases Nat.lt_trichotomy x.1 y.1 with h1 | h1 | h1
  · exact absurd (.inl h1) h
  · rcases Nat.lt_trichotomy x.2.length y.2.length with h2 | h2 | h2
    · exact absurd (.inr ⟨h1, .inl h2⟩) h
    · refine .inr ⟨h1.symm, .inr ⟨h2.symm, cmpL_nn h2 fun h3 => ?_⟩⟩
      exact h (.inr ⟨h1, .inr ⟨h2, h3⟩⟩)
    · exact .inr ⟨h1.symm, .inl h2⟩
  · exact .inl h1
/-- the better one of two -/
def pickK (x y : Nat × List Nat) : Nat × List Nat := if betK x y then x else y
theorem pickK_or (x y : Nat × List Nat) : (leK x y ∧ pickK x y = x) ∨ (leK y x ∧ pickK x y = y) := by
  unfold pickK
  cases h : betK x y with
  | true => exact .inl ⟨betK_true h, rfl⟩
  | false => exact .inr ⟨betK_false h, by simp⟩

section
variable (c : Nat → Nat → Nat) (E : Nat)
/-- the best division of [0, j) by its last places: what is found when the places from m on have been tried; T: the best ones of shorter beginnings -/
def runL (T : Nat → Nat × List Nat) (j : Nat) : Nat → Nat × List Nat
  | 0 => candL c E 0 j (j - 1) (T (j - 1))
  | s + 1 => pickK (candL c E 0 j (j - 1 - (s + 1)) (T (j - 1 - (s + 1)))) (runL T j s)
theorem runL_min {T : Nat → Nat × List Nat} {j : Nat} (hj : 0 < j) (hT : ∀ k, 0 < k → k < j → IsMin c E 0 k (T k)) : ∀ s, s < j → IsMinL c E 0 j (j - 1 - s) (runL c E T j s)
  | 0, _ => IsMinL.start c E hj (fun h => hT _ h (by omega))
  | s + 1, h => by
    have ih := runL_min hj hT s (by omega)
    have e : j - 1 - s = j - 1 - (s + 1) + 1 := by omega
    rw [e] at ih
    exact ih.step c E (Nat.zero_le _) (by omega) (fun h1 => hT _ h1 (by omega)) (pickK_or _ _)
/-- the best division of [0, j): as the program finds it -/
def bestL : Nat → Nat × List Nat := fun j => (go (j + 1)).2 j
where
  go : Nat → Unit × (Nat → Nat × List Nat)
    | 0 => ((), fun _ => (0, []))
    | n + 1 => ((), fun k => if k = n then (if n = 0 then (0, []) else runL c E (go n).2 n (n - 1)) else (go n).2 k)
theorem bestL.go_old {n k : Nat} (h : k < n) : ∀ m, n ≤ m → (bestL.go c E m).2 k = (bestL.go c E n).2 k
  | 0, hm => by omega
  | m + 1, hm => by
    rcases Nat.lt_or_ge m n with h1 | h1
    · obtain rfl : n = m + 1 := by omega
      rfl
    · have ih := bestL.go_old h m h1
      rw [← ih]
      show (if k = m then _ else (bestL.go c E m).2 k) = _
      rw [if_neg (by omega)]
theorem bestL_go {n k : Nat} (h : k < n) : (bestL.go c E n).2 k = bestL c E k := (bestL.go_old c E (Nat.lt_succ_self k) n h)
theorem bestL_zero : bestL c E 0 = (0, []) := rfl
theorem runL_congr {T U : Nat → Nat × List Nat} {j : Nat} (hj : 0 < j) (h : ∀ k, k < j → T k = U k) : ∀ s, runL c E T j s = runL c E U j s
  | 0 => by unfold runL; rw [h _ (by omega)]
  | s + 1 => by unfold runL; rw [h _ (by omega), runL_congr hj h s]
theorem bestL_step {j : Nat} (hj : 0 < j) : bestL c E j = runL c E (bestL c E) j (j - 1) := by
  show (if j = j then (if j = 0 then (0, []) else runL c E (bestL.go c E j).2 j (j - 1)) else (bestL.go c E j).2 j) = _
  rw [if_pos rfl, if_neg (by omega)]
  exact runL_congr c E hj (fun k hk => bestL_go c E hk) _
theorem bestL_min : ∀ (n j : Nat), j ≤ n → 0 < j → IsMin c E 0 j (bestL c E j)
  | 0, j, h, hj => by omega
  | n + 1, j, h, hj => by
    rw [bestL_step c E hj]
    have := runL_min c E hj (T := bestL c E) (fun k h1 h2 => bestL_min n k (by omega) h1) (j - 1) (by omega)
    rw [show j - 1 - (j - 1) = 0 by omega] at this
    exact this.done
/-- the best division of [i, n) by its first places -/
def runF (T : Nat → Nat × List Nat) (n i : Nat) : Nat → Nat × List Nat
  | 0 => (c i n, [])
  | s + 1 => pickK (c i (i + (s + 1)) + E + (T (i + (s + 1))).1, (i + (s + 1)) :: (T (i + (s + 1))).2) (runF T n i s)
theorem runF_min {T : Nat → Nat × List Nat} {n i : Nat} (hT : ∀ k, i < k → k < n → IsMin c E k n (T k)) : ∀ s, i + s < n → IsMinF c E i n (i + s + 1) (runF c E T n i s)
  | 0, _ => IsMinF.start c E i n
  | s + 1, h => by
    have ih := runF_min hT s (by omega)
    exact ih.step c E (by omega) h (hT _ (by omega) h) (pickK_or _ _)
theorem IsMin.le_whole {i j : Nat} {x : Nat × List Nat} (h : IsMin c E i j x) : x.1 ≤ c i j := by
  have := h.2.2 [] trivial
  rcases this with h1 | ⟨h1, _⟩
  · exact Nat.le_of_lt h1
  · exact Nat.le_of_eq h1
end
theorem Val.length_le : ∀ {i j : Nat} {r : List Nat}, Val i j r → i < j → r.length + i < j
  | i, j, [], _, h => by simpa using h
  | i, j, k :: r, hv, _ => by
    have := Val.length_le hv.2.2 hv.2.1
    have := hv.1
    simp only [List.length_cons]; omega
/-- a sum of squares of small numbers is small -/
theorem sqs_le {M : Nat} : ∀ {l : List Int}, (∀ z ∈ l, z.natAbs ≤ M) → (sqs l).toNat ≤ l.length * (M * M)
  | [], _ => by simp [sqs]
  | x :: l, h => by
    have ih := sqs_le (l := l) fun z hz => h z (by simp [hz])
    have e : sqs (x :: l) = x * x + sqs l := by simp [sqs]
    have h1 := sq_nonneg x
    have h2 := sqs_nonneg l
    have h3 : x.natAbs * x.natAbs ≤ M * M := Nat.mul_le_mul (h x (by simp)) (h x (by simp))
    have h4 := natAbs_sq x
    rw [e, List.length_cons, Nat.succ_mul]
    omega
theorem segL_mem {l : List Int} {i j : Nat} {z : Int} (h : z ∈ segL l i j) : z ∈ l := by
  unfold segL at h
  exact List.mem_of_mem_drop (List.mem_of_mem_take h)
theorem cS_le {l : List Int} {D i j M : Nat} (h : ∀ z ∈ l, z.natAbs ≤ M) (hj : j ≤ l.length) : cS l D i j ≤ D * ((j - i) * (M * M)) := by
  unfold cS
  have h1 := sqs_le (l := segL l i j) fun z hz => h z (segL_mem hz)
  rw [segL_length hj] at h1
  exact Nat.le_trans (Nat.sub_le _ _) (Nat.mul_le_mul_left _ h1)
end Go.Proofs.YtnpfdelklolchaaGreatDoor
