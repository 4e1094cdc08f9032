import Derived.Lib.ItoaNum
/- Decimal digits read as a number: plain. -/
namespace Go.Proofs.YtpmnhdgajkickaaGreatDoor
open Go

/-- decimal digits read as a number -/
def dgV (l : List UInt8) : Nat := l.foldl (fun n c => 10 * n + (c.toNat - 48)) 0
theorem dgV_from (l : List UInt8) : ∀ n : Nat, l.foldl (fun n c => 10 * n + (c.toNat - 48)) n = n * 10 ^ l.length + dgV l := by
  induction l with
  | nil => intro n; simp [dgV]
  | cons c r ih =>
    intro n
    unfold dgV
    rw [List.foldl_cons, List.foldl_cons, ih, ih (10 * 0 + _), List.length_cons, Nat.pow_succ]
    have : (10 * n + (c.toNat - 48)) * 10 ^ r.length = n * (10 ^ r.length * 10) + (c.toNat - 48) * 10 ^ r.length := by
      rw [Nat.add_mul, Nat.mul_comm 10 n, Nat.mul_assoc, Nat.mul_comm 10]
    rw [this, Nat.mul_zero, Nat.zero_add]
    unfold dgV
    omega
theorem dgV_app (a b : List UInt8) : dgV (a ++ b) = dgV a * 10 ^ b.length + dgV b := by
  conv => lhs; unfold dgV
  rw [List.foldl_append, dgV_from]
  rfl
theorem dgV_snoc (a : List UInt8) (c : UInt8) : dgV (a ++ [c]) = 10 * dgV a + (c.toNat - 48) := by
  unfold dgV; rw [List.foldl_append]; rfl
theorem dgV_lt {l : List UInt8} (h : ∀ c ∈ l, 48 ≤ c.toNat ∧ c.toNat ≤ 57) : dgV l < 10 ^ l.length := by
  induction l with
  | nil => simp [dgV]
  | cons c r ih =>
    have e := dgV_from r (10 * 0 + (c.toNat - 48))
    have h1 := h c (by simp)
    have h2 := ih (fun x hx => h x (by simp [hx]))
    unfold dgV
    rw [List.foldl_cons, e, List.length_cons, Nat.pow_succ]
    have : (10 * 0 + (c.toNat - 48)) * 10 ^ r.length ≤ 9 * 10 ^ r.length := Nat.mul_le_mul (by omega) (Nat.le_refl _)
    omega
theorem dec_val (u : Nat) : dgV (Lib.decDigits u) = u ∧ ∀ c ∈ Lib.decDigits u, 48 ≤ c.toNat ∧ c.toNat ≤ 57 := by
  induction u using Nat.strongRecOn with
  | _ u ih =>
    rw [Lib.decDigits]
    split
    · have e : (UInt8.ofNat (48 + u)).toNat = 48 + u := by simp; omega
      refine ⟨?_, fun c hc => ?_⟩
      · show 10 * 0 + ((UInt8.ofNat (48 + u)).toNat - 48) = u
        omega
      · obtain rfl := List.mem_singleton.1 hc
        omega
    · have e : (UInt8.ofNat (48 + u % 10)).toNat = 48 + u % 10 := by simp; omega
      obtain ⟨i1, i2⟩ := ih (u / 10) (by omega)
      refine ⟨?_, fun c hc => ?_⟩
      · rw [dgV_snoc, i1]; omega
      · rcases List.mem_append.1 hc with h | h
        · exact i2 c h
        · obtain rfl := List.mem_singleton.1 h
          omega
/-- the next four digits -/
theorem dgV_chunk {L : List UInt8} {s e : Nat} (hs : s ≤ e) (he : e ≤ L.length) : dgV (L.drop s) = dgV ((L.drop s).take (e - s)) * 10 ^ (L.length - e) + dgV (L.drop e) := by
  have h : L.drop s = (L.drop s).take (e - s) ++ L.drop e := by
    conv => lhs; rw [← List.take_append_drop (e - s) (L.drop s)]
    rw [List.drop_drop, show s + (e - s) = e by omega]
  conv => lhs; rw [h]
  rw [dgV_app, List.length_drop]
theorem dgV_next {L : List UInt8} {s i : Nat} (hs : s ≤ i) (hi : i < L.length) : dgV ((L.drop s).take (i + 1 - s)) = 10 * dgV ((L.drop s).take (i - s)) + (L[i].toNat - 48) := by
  rw [show i + 1 - s = i - s + 1 by omega, List.take_succ_eq_append_getElem (by rw [List.length_drop]; omega), dgV_snoc]
  congr 3
  rw [List.getElem_drop]
  congr 1
  omega
theorem dgV_piece {L : List UInt8} (h : ∀ c ∈ L, 48 ≤ c.toNat ∧ c.toNat ≤ 57) (s k : Nat) : dgV ((L.drop s).take k) < 10 ^ k := by
  have h1 := dgV_lt (l := (L.drop s).take k) (fun c hc => h c (List.mem_of_mem_drop (List.mem_of_mem_take hc)))
  refine Nat.lt_of_lt_of_le h1 (Nat.pow_le_pow_right (by omega) ?_)
  rw [List.length_take]; omega
end Go.Proofs.YtpmnhdgajkickaaGreatDoor

/- Fractions in lowest terms with a sign apart: what the reference's operations compute, over the core library's rational numbers. No program in sight. -/
namespace Go.Proofs.YtpmnhdgajkickaaGreatDoor

/-- a number with a sign apart -/
def sg (b : Bool) (n : Nat) : Int := if b then -(n : Int) else n
theorem sg_abs (b : Bool) (n : Nat) : (sg b n).natAbs = n := by cases b <;> simp [sg]
theorem sg_self (z : Int) : sg (decide (z < 0)) z.natAbs = z := by
  unfold sg
  by_cases h : z < 0
  · simp [h]; omega
  · simp [h]; omega
theorem sg_neg (b : Bool) (n : Nat) : sg (!b) n = -sg b n := by cases b <;> simp [sg]
theorem sg_mul (a b : Bool) (m n : Nat) : sg a m * sg b n = sg (a != b) (m * n) := by
  cases a <;> cases b <;> simp [sg, Int.neg_mul, Int.mul_neg]
theorem sg_add (a : Bool) (m n : Nat) : sg a m + sg a n = sg a (m + n) := by cases a <;> simp [sg]; omega
theorem sg_sub {a b : Bool} (h : a ≠ b) {m n : Nat} (hmn : n ≤ m) : sg a m + sg b n = sg a (m - n) := by
  cases a <;> cases b <;> simp_all [sg] <;> omega
theorem sg_zero (b : Bool) : sg b 0 = 0 := by cases b <;> rfl
/-- the parts of a rational number as the reference has them -/
def frS (q : Rat) : Bool := decide (q.num < 0)
def frN (q : Rat) : Nat := q.num.natAbs
theorem fr_num (q : Rat) : sg (frS q) (frN q) = q.num := sg_self _
theorem fr_eq (q : Rat) : mkRat (sg (frS q) (frN q)) q.den = q := by rw [fr_num, Rat.mkRat_self]
theorem fr_den (q : Rat) : 0 < q.den := q.den_pos
theorem frN_zero {q : Rat} : frN q = 0 ↔ q = 0 := by
  unfold frN
  rw [Int.natAbs_eq_zero]
  exact Rat.num_eq_zero
/-- Lowest -/
theorem low_zero (b : Bool) (d : Nat) : mkRat (sg b 0) d = 0 := by rw [sg_zero]; exact Rat.zero_mkRat d
theorem fr_zero : frS 0 = false ∧ frN 0 = 0 ∧ (0 : Rat).den = 1 := ⟨rfl, rfl, rfl⟩
theorem low_pos {b : Bool} {n d : Nat} (hn : 0 < n) (hd : 0 < d) : frS (mkRat (sg b n) d) = b ∧ frN (mkRat (sg b n) d) = n / Nat.gcd n d ∧ (mkRat (sg b n) d).den = d / Nat.gcd n d := by
  have hg : 0 < Nat.gcd n d := Nat.gcd_pos_of_pos_left d hn
  have h1 : (mkRat (sg b n) d).num = sg b n / (Nat.gcd n d : Int) := by
    rw [Rat.num_mkRat, if_neg (by omega), sg_abs, Nat.gcd_comm]
  have h2 : sg b n / (Nat.gcd n d : Int) = sg b (n / Nat.gcd n d) := by
    obtain ⟨k, hk⟩ := Nat.gcd_dvd_left n d
    have e : n / Nat.gcd n d = k := by
      conv => lhs; lhs; rw [hk]
      exact Nat.mul_div_cancel_left k hg
    cases b
    · show (n : Int) / (Nat.gcd n d : Int) = (n / Nat.gcd n d : Nat)
      rw [Int.natCast_ediv]
    · show -(n : Int) / (Nat.gcd n d : Int) = -((n / Nat.gcd n d : Nat) : Int)
      rw [Int.neg_ediv_of_dvd (Int.natCast_dvd_natCast.2 (Nat.gcd_dvd_left n d)), Int.natCast_ediv]
  have hq : 0 < n / Nat.gcd n d := Nat.div_pos (Nat.le_of_dvd hn (Nat.gcd_dvd_left n d)) hg
  refine ⟨?_, ?_, ?_⟩
  · unfold frS
    rw [h1, h2]
    cases b
    · show decide (((n / Nat.gcd n d : Nat) : Int) < 0) = false
      simp only [decide_eq_false_iff_not]; omega
    · show decide (-((n / Nat.gcd n d : Nat) : Int) < 0) = true
      simp only [decide_eq_true_iff]; omega
  · unfold frN
    rw [h1, h2, sg_abs]
  · rw [Rat.den_mkRat, if_neg (by omega), sg_abs, Nat.gcd_comm]
/-- the operations -/
theorem sg_mul_nat (b : Bool) (n m : Nat) : sg b (n * m) = sg b n * (m : Int) := by cases b <;> simp [sg, Int.neg_mul]
theorem plus_same {a b : Rat} (h : frS a = frS b) : mkRat (sg (frS a) (frN a * b.den + frN b * a.den)) (a.den * b.den) = a + b := by
  have h2 : sg (frS a) (frN b * a.den) = b.num * a.den := by rw [h, sg_mul_nat, fr_num]
  rw [Rat.add_def', ← sg_add, sg_mul_nat, fr_num, h2]
theorem plus_ge {a b : Rat} (h : frS a ≠ frS b) (hc : frN b * a.den ≤ frN a * b.den) : mkRat (sg (frS a) (frN a * b.den - frN b * a.den)) (a.den * b.den) = a + b := by
  rw [Rat.add_def', ← sg_sub h hc, sg_mul_nat, sg_mul_nat, fr_num, fr_num]
theorem plus_lt {a b : Rat} (h : frS a ≠ frS b) (hc : frN a * b.den ≤ frN b * a.den) : mkRat (sg (frS b) (frN b * a.den - frN a * b.den)) (a.den * b.den) = a + b := by
  rw [Rat.add_def', ← sg_sub (Ne.symm h) hc, sg_mul_nat, sg_mul_nat, fr_num, fr_num, Int.add_comm]
theorem minus_parts (a : Rat) : frS (-a) = (if 0 < frN a then !frS a else frS a) ∧ frN (-a) = frN a ∧ (-a).den = a.den := by
  refine ⟨?_, ?_, rfl⟩
  · unfold frS frN
    rw [Rat.neg_num]
    by_cases h : a.num = 0
    · rw [h]; rfl
    · rw [if_pos (by omega)]
      by_cases h2 : a.num < 0
      · simp [h2]; omega
      · simp [h2]; omega
  · unfold frN; rw [Rat.neg_num, Int.natAbs_neg]
theorem times_eq (a b : Rat) : mkRat (sg (frS a != frS b) (frN a * frN b)) (a.den * b.den) = a * b := by
  rw [Rat.mul_def', ← sg_mul, fr_num, fr_num]
theorem over_eq {a b : Rat} (hb : b ≠ 0) : mkRat (sg (frS a != frS b) (frN a * b.den)) (a.den * frN b) = a / b := by
  have hn : frN b ≠ 0 := fun h => hb (frN_zero.1 h)
  have hbn : b.num ≠ 0 := fun h => hb (Rat.num_eq_zero.1 h)
  have h1 : a / b = Rat.divInt (a.num * b.den) (a.den * b.num) := by
    rw [Rat.div_def, Rat.inv_def]
    conv => lhs; lhs; rw [← Rat.num_divInt_den a]
    rw [Rat.divInt_mul_divInt]
  rw [h1, ← Rat.divInt_ofNat, Rat.divInt_eq_divInt_iff (by simp [hn, a.den_nz]) (by simp [hbn, a.den_nz])]
  have ha := fr_num a
  have hb2 := fr_num b
  rw [← ha]
  conv => lhs; rw [← hb2]
  generalize frN a = x at *
  generalize frN b = y at *
  cases frS a <;> cases frS b <;> simp [sg] <;> grind
/-- the sign of a difference is the comparison -/
def ordQ (a b : Rat) : Int := if a < b then -1 else if a = b then 0 else 1
theorem sign_eq (q : Rat) : (if frN q = 0 then (0 : Int) else if frS q = true then -1 else 1) = (if q < 0 then -1 else if q = 0 then 0 else 1) := by
  by_cases h0 : q = 0
  · subst h0; rfl
  · have hn : frN q ≠ 0 := fun h => h0 (frN_zero.1 h)
    rw [if_neg hn]
    have hs : frS q = true ↔ q < 0 := by
      unfold frS
      rw [decide_eq_true_iff, Rat.lt_iff]
      show q.num < 0 ↔ q.num * (1 : Nat) < 0 * (q.den : Int)
      rw [Int.zero_mul]; omega
    by_cases h : q < 0
    · rw [if_pos (hs.2 h), if_pos h]
    · rw [if_neg (fun h' => h (hs.1 h')), if_neg h, if_neg h0]
theorem ordQ_eq (a b : Rat) : (if a - b < 0 then -1 else if a - b = 0 then 0 else (1 : Int)) = ordQ a b := by
  unfold ordQ
  have h1 : a - b < 0 ↔ a < b := by rw [Rat.sub_lt_iff, Rat.zero_add]
  have h2 : a - b = 0 ↔ a = b := by
    constructor
    · intro h
      have : a - b + b = 0 + b := by rw [h]
      rwa [Rat.sub_add_cancel, Rat.zero_add] at this
    · rintro rfl; exact Rat.sub_self
  simp only [h1, h2]
theorem floor_eq {q : Rat} (h : 0 ≤ q) : ((frN q / q.den : Nat) : Int) = q.floor := by
  rw [Rat.floor_def]
  have : q.num = (frN q : Int) := by
    unfold frN
    have := Rat.num_nonneg.2 h
    omega
  rw [this]; simp
end Go.Proofs.YtpmnhdgajkickaaGreatDoor
