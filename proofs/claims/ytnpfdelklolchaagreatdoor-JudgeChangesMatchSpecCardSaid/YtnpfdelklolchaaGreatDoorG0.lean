import Derived.Lib.ItoaNum
/- Decimal digits read as a number: plain. -/
namespace Go.Proofs.YtnpfdelklolchaaGreatDoor
open Go

/-- decimal digits read as a number -/
def dgV (l : List UInt8) : Nat := l.foldl (fun n c => 10 * n + (c.toNat - 48)) 0
theorem dgV_from (l : List UInt8) : ∀ n : Nat, l.foldl (fun n c => 10 * n + (c.toNat - 48)) n = n * 10 ^ l.length + dgV l := by
  induction l with
  | nil => intro n; simp [dgV]
  | cons c r ih =>
    intro n
    unfold dgV
    rw [List.foldl_cons, List.foldl_cons, ih, ih (10 * 0 + _), List.length_cons, Nat.pow_succ]
    have : (10 * n + (c.toNat - 48)) * 10 ^ r.length = n * (10 ^ r.length * 10) + (c.toNat - 48) * 10 ^ r.length := by
      rw [Nat.add_mul, Nat.mul_comm 10 n, Nat.mul_assoc, Nat.mul_comm 10]
    rw [this, Nat.mul_zero, Nat.zero_add]
    unfold dgV
    omega
theorem dgV_app (a b : List UInt8) : dgV (a ++ b) = dgV a * 10 ^ b.length + dgV b := by
  conv => lhs; unfold dgV
  rw [List.foldl_append, dgV_from]
  rfl
theorem dgV_lt {l : List UInt8} (h : ∀ c ∈ l, 48 ≤ c.toNat ∧ c.toNat ≤ 57) : dgV l < 10 ^ l.length := by
  induction l with
  | nil => simp [dgV]
  | cons c r ih =>
    have e := dgV_from r (10 * 0 + (c.toNat - 48))
    have h1 := h c (by simp)
    have h2 := ih (fun x hx => h x (by simp [hx]))
    unfold dgV
    rw [List.foldl_cons, e, List.length_cons, Nat.pow_succ]
    have : (10 * 0 + (c.toNat - 48)) * 10 ^ r.length ≤ 9 * 10 ^ r.length := Nat.mul_le_mul (by omega) (Nat.le_refl _)
    omega
end Go.Proofs.YtnpfdelklolchaaGreatDoor

/- Fractions in lowest terms with a sign apart: what the reference's operations compute, over the core library's rational numbers. No program in sight. -/
namespace Go.Proofs.YtnpfdelklolchaaGreatDoor

/-- a number with a sign apart -/
def sg (b : Bool) (n : Nat) : Int := if b then -(n : Int) else n
theorem sg_abs (b : Bool) (n : Nat) : (sg b n).natAbs = n := by cases b <;> simp [sg]
theorem sg_zero (b : Bool) : sg b 0 = 0 := by cases b <;> rfl
/-- the parts of a rational number as the reference has them -/
def frS (q : Rat) : Bool := decide (q.num < 0)
def frN (q : Rat) : Nat := q.num.natAbs
theorem fr_den (q : Rat) : 0 < q.den := q.den_pos
/-- Lowest -/
theorem low_zero (b : Bool) (d : Nat) : mkRat (sg b 0) d = 0 := by rw [sg_zero]; exact Rat.zero_mkRat d
theorem low_pos {b : Bool} {n d : Nat} (hn : 0 < n) (hd : 0 < d) : frS (mkRat (sg b n) d) = b ∧ frN (mkRat (sg b n) d) = n / Nat.gcd n d ∧ (mkRat (sg b n) d).den = d / Nat.gcd n d := by
  have hg : 0 < Nat.gcd n d := Nat.gcd_pos_of_pos_left d hn
  have h1 : (mkRat (sg b n) d).num = sg b n / (Nat.gcd n d : Int) := by
    rw [Rat.num_mkRat, if_neg (by omega), sg_abs, Nat.gcd_comm]
  have h2 : sg b n / (Nat.gcd n d : Int) = sg b (n / Nat.gcd n d) := by
    obtain ⟨k, hk⟩ := Nat.gcd_dvd_left n d
    have e : n / Nat.gcd n d = k := by
      conv => lhs; lhs; rw [hk]
      exact Nat.mul_div_cancel_left k hg
    cases b
    · show (n : Int) / (Nat.gcd n d : Int) = (n / Nat.gcd n d : Nat)
      rw [Int.natCast_ediv]
    · show -(n : Int) / (Nat.gcd n d : Int) = -((n / Nat.gcd n d : Nat) : Int)
      rw [Int.neg_ediv_of_dvd (Int.natCast_dvd_natCast.2 (Nat.gcd_dvd_left n d)), Int.natCast_ediv]
  have hq : 0 < n / Nat.gcd n d := Nat.div_pos (Nat.le_of_dvd hn (Nat.gcd_dvd_left n d)) hg
  refine ⟨?_, ?_, ?_⟩
  · unfold frS
    rw [h1, h2]
    cases b
    · show decide (((n / Nat.gcd n d : Nat) : Int) < 0) = false
      simp only [decide_eq_false_iff_not]; omega
    · show decide (-((n / Nat.gcd n d : Nat) : Int) < 0) = true
      simp only [decide_eq_true_iff]; omega
  · unfold frN
    rw [h1, h2, sg_abs]
  · rw [Rat.den_mkRat, if_neg (by omega), sg_abs, Nat.gcd_comm]
end Go.Proofs.YtnpfdelklolchaaGreatDoor

/- Numbers as lists of digits, the lowest first: plain. -/
namespace Go.Proofs.YtnpfdelklolchaaGreatDoor

/-- the number with these digits in base B -/
def val (B : Nat) : List Nat → Nat
  | [] => 0
  | d :: r => d + B * val B r
/-- digits below B, no zero at the end -/
def Norm (B : Nat) (l : List Nat) : Prop := (∀ d ∈ l, d < B) ∧ l.getLast? ≠ some 0
theorem val_append (B : Nat) : ∀ a b : List Nat, val B (a ++ b) = val B a + B ^ a.length * val B b
  | [], b => by simp [val]
  | d :: a, b => by
    have ih := val_append B a b
    simp only [List.cons_append, val, ih, List.length_cons, Nat.pow_succ]
    rw [Nat.mul_add, Nat.add_assoc, ← Nat.mul_assoc, Nat.mul_comm B (B ^ a.length)]
theorem val_snoc (B : Nat) (a : List Nat) (d : Nat) : val B (a ++ [d]) = val B a + B ^ a.length * d := by
  rw [val_append]; simp [val]
theorem val_lt {B : Nat} : ∀ {l : List Nat}, (∀ d ∈ l, d < B) → val B l < B ^ l.length
  | [], _ => by simp [val]
  | d :: r, h => by
    have ih := val_lt (fun x hx => h x (by simp [hx]) : ∀ x ∈ r, x < B)
    have hd := h d (by simp)
    simp only [val, List.length_cons, Nat.pow_succ]
    have : B * val B r + B ≤ B ^ r.length * B := by
      have := Nat.mul_le_mul_left B (show val B r + 1 ≤ B ^ r.length by omega)
      rw [Nat.mul_add, Nat.mul_one, Nat.mul_comm B (B ^ r.length)] at this
      exact this
    omega
theorem val_ge {B : Nat} (_hB : 1 < B) {l : List Nat} (h : Norm B l) (hl : l ≠ []) : B ^ (l.length - 1) ≤ val B l := by
  rcases List.eq_nil_or_concat l with rfl | ⟨a, d, rfl⟩
  · exact absurd rfl hl
  · rw [List.concat_eq_append] at *
    have hd : d ≠ 0 := by
      intro e
      apply h.2
      simp [e]
    rw [val_snoc]
    simp only [List.length_append, List.length_singleton, Nat.add_sub_cancel]
    have : B ^ a.length * 1 ≤ B ^ a.length * d := Nat.mul_le_mul_left _ (by omega)
    omega
theorem norm_nil (B : Nat) : Norm B [] := ⟨fun _ h => by simp at h, by simp⟩
theorem val_zero {B : Nat} (hB : 1 < B) {l : List Nat} (h : Norm B l) : val B l = 0 ↔ l = [] := by
  constructor
  · intro h0
    refine Classical.byContradiction fun hl => ?_
    have := val_ge hB h hl
    have : 0 < B ^ (l.length - 1) := Nat.pow_pos (by omega)
    omega
  · rintro rfl; rfl
/-- a longer number is a greater one -/
theorem val_len_lt {B : Nat} (hB : 1 < B) {a b : List Nat} (ha : Norm B a) (hb : Norm B b) (h : a.length < b.length) : val B a < val B b := by
  have h1 := val_lt ha.1
  have hbn : b ≠ [] := by intro e; rw [e] at h; simp at h
  have h2 := val_ge hB hb hbn
  have h3 : B ^ a.length ≤ B ^ (b.length - 1) := Nat.pow_le_pow_right (by omega) (by omega)
  omega
/-- the first place from above at which two numbers of one length part -/
theorem val_part {B : Nat} (a b : List Nat) (x y : Nat) (s : List Nat) (hl : a.length = b.length) (ha : ∀ d ∈ a, d < B) (hxy : x < y) : val B (a ++ x :: s) < val B (b ++ y :: s) := by
  rw [val_append, val_append]
  simp only [val]
  have h1 := val_lt ha
  rw [← hl]
  have h2 : B ^ a.length * (x + B * val B s) + B ^ a.length ≤ B ^ a.length * (y + B * val B s) := by
    have := Nat.mul_le_mul_left (B ^ a.length) (show x + B * val B s + 1 ≤ y + B * val B s by omega)
    rw [Nat.mul_add, Nat.mul_one] at this
    exact this
  omega
/-- without zeros at the end -/
def trim : List Nat → List Nat
  | [] => []
  | d :: r => if d = 0 ∧ trim r = [] then [] else d :: trim r
theorem trim_val (B : Nat) : ∀ l, val B (trim l) = val B l
  | [] => rfl
  | d :: r => by
    have ih := trim_val B r
    unfold trim
    split
    · rename_i h
      rw [h.2] at ih
      simp only [val] at *
      rw [← ih, h.1]; simp
    · simp only [val, ih]
theorem trim_norm {B : Nat} : ∀ {l : List Nat}, (∀ d ∈ l, d < B) → Norm B (trim l)
  | [], _ => norm_nil B
  | d :: r, h => by
    have ih := trim_norm (l := r) (fun x hx => h x (by simp [hx]))
    unfold trim
    split
    · exact norm_nil B
    · rename_i hn
      refine ⟨fun x hx => ?_, ?_⟩
      · rcases List.mem_cons.1 hx with e | e
        · rw [e]; exact h d (by simp)
        · exact ih.1 x e
      · cases ht : trim r with
        | nil =>
          simp only [List.getLast?_singleton, ne_eq, Option.some.injEq]
          intro e
          exact hn ⟨e, ht⟩
        | cons y s =>
          rw [List.getLast?_cons_cons, ← ht]
          exact ih.2
/-- the loop that cuts zeros at the end: the first n digits, if those behind them are zeros -/
theorem trim_take : ∀ (l : List Nat) (n : Nat), n ≤ l.length → (∀ i, n ≤ i → i < l.length → l[i]? = some 0) → (n = 0 ∨ l[n - 1]? ≠ some 0) → trim l = l.take n
  | [], n, hn, _, _ => by simp [trim]
  | d :: r, 0, _, hz, _ => by
    have h0 := hz 0 (by omega) (by simp)
    simp at h0
    have := trim_take r 0 (by omega) (fun i _ hi => by have := hz (i + 1) (by omega) (by simp; omega); simpa using this) (.inl rfl)
    unfold trim
    rw [if_pos ⟨h0, by simpa using this⟩]; rfl
  | d :: r, n + 1, hn, hz, hl => by
    simp only [List.length_cons] at hn
    have ih := trim_take r n (by omega) (fun i h1 h2 => by have := hz (i + 1) (by omega) (by simp; omega); simpa using this) (by
      rcases Nat.eq_zero_or_pos n with h | h
      · exact .inl h
      · right
        rcases hl with h' | h'
        · omega
        · have e : n + 1 - 1 = (n - 1) + 1 := by omega
          rw [e, List.getElem?_cons_succ] at h'
          exact h')
    unfold trim
    rw [if_neg, ih]
    · rfl
    · rintro ⟨h1, h2⟩
      rw [ih] at h2
      rcases hl with h' | h'
      · omega
      · cases n with
        | zero => apply h'; simp [h1]
        | succ n =>
          have : r.take (n + 1) = [] := h2
          cases r with
          | nil => simp at hn
          | cons y s => simp at this
theorem trim_length (l : List Nat) : (trim l).length ≤ l.length := by
  induction l with
  | nil => simp [trim]
  | cons d r ih => unfold trim; split <;> simp; omega
end Go.Proofs.YtnpfdelklolchaaGreatDoor

/- The decimal digits of a number, chunk by chunk: plain. -/
namespace Go.Proofs.YtnpfdelklolchaaGreatDoor
open Go Go.Lib

theorem dec_small {u : Nat} (h : u < 10) : decDigits u = [UInt8.ofNat (48 + u)] := by rw [decDigits, dif_pos h]
theorem dec_big {u : Nat} (h : ¬ u < 10) : decDigits u = decDigits (u / 10) ++ [UInt8.ofNat (48 + u % 10)] := by rw [decDigits, dif_neg h]
/-- k digits, with zeros ahead -/
def pad (k v : Nat) : List UInt8 := List.replicate (k - (decDigits v).length) 48 ++ decDigits v
theorem dec_len_pos (v : Nat) : 1 ≤ (decDigits v).length := by rw [decDigits_length]; exact nDigits_pos v
theorem pad_one {v : Nat} (h : v < 10) : pad 1 v = [UInt8.ofNat (48 + v)] := by unfold pad; rw [dec_small h]; rfl
theorem pad_succ {k : Nat} (hk : 1 ≤ k) (v : Nat) : pad (k + 1) v = pad k (v / 10) ++ [UInt8.ofNat (48 + v % 10)] := by
  unfold pad
  by_cases h : v < 10
  · rw [dec_small h, Nat.div_eq_of_lt h, Nat.mod_eq_of_lt h, dec_small (show 0 < 10 by omega)]
    simp only [List.length_singleton, Nat.add_sub_cancel]
    obtain ⟨j, rfl⟩ : ∃ j, k = j + 1 := ⟨k - 1, by omega⟩
    rw [Nat.add_sub_cancel, List.replicate_succ']
    rfl
  · rw [dec_big h, List.length_append, List.length_singleton, Nat.add_sub_add_right, List.append_assoc]
theorem dec_chunk : ∀ (k u v : Nat), 1 ≤ k → 1 ≤ u → v < 10 ^ k → decDigits (v + 10 ^ k * u) = decDigits u ++ pad k v
  | 0, _, _, h, _, _ => by omega
  | 1, u, v, _, hu, hv => by
    have hv' : v < 10 := by simpa using hv
    rw [pad_one hv', dec_big (by omega)]
    congr 2
    · congr 1; omega
    · congr 2; omega
  | k + 2, u, v, _, hu, hv => by
    have hp : 0 < 10 ^ (k + 1) := Nat.pow_pos (by omega)
    have e : 10 ^ (k + 2) * u = 10 * (10 ^ (k + 1) * u) := by rw [Nat.pow_succ 10 (k + 1), Nat.mul_comm (10 ^ (k + 1)) 10, Nat.mul_assoc]
    have hq : 1 ≤ 10 ^ (k + 1) * u := Nat.mul_pos hp hu
    have hv2 : v / 10 < 10 ^ (k + 1) := by
      rw [Nat.div_lt_iff_lt_mul (by omega), ← Nat.pow_succ]; exact hv
    rw [pad_succ (by omega), ← List.append_assoc, ← dec_chunk (k + 1) u (v / 10) (by omega) hu hv2, dec_big (by omega), e]
    congr 2
    · congr 1; omega
    · congr 2; omega
theorem dec_le {v k : Nat} (hk : 1 ≤ k) (h : v < 10 ^ k) : (decDigits v).length ≤ k := by
  rw [decDigits_length]
  rcases Nat.lt_or_ge k (nDigits v) with h' | h'
  · exfalso
    obtain ⟨j, hj⟩ : ∃ j, nDigits v = j + 2 := ⟨nDigits v - 2, by omega⟩
    have h3 : 10 ^ (j + 1) ≤ v := by
      clear h h'
      revert hj
      induction j generalizing v with
      | zero =>
        intro hj
        rcases Nat.lt_or_ge v 10 with h | h
        · rw [nDigits_small h] at hj; omega
        · simpa using h
      | succ j ih =>
        intro hj
        rcases Nat.lt_or_ge v 10 with h | h
        · rw [nDigits_small h] at hj; omega
        · rw [nDigits_big (by omega)] at hj
          have := ih (v := v / 10) (by omega)
          have e : 10 ^ (j + 1 + 1) = 10 * 10 ^ (j + 1) := by rw [Nat.pow_succ, Nat.mul_comm]
          omega
    have h4 : 10 ^ k ≤ 10 ^ (j + 1) := Nat.pow_le_pow_right (by omega) (by omega)
    omega
  · exact h'
theorem itoa_nat (n : Nat) : itoa (n : Int) = decDigits n := by unfold itoa; rw [if_neg (by omega)]; simp
end Go.Proofs.YtnpfdelklolchaaGreatDoor

/- A fraction's two texts: plain. -/
namespace Go.Proofs.YtnpfdelklolchaaGreatDoor
open Go

/-- the texts of a fraction as the reference has it -/
def ratQ (q : Rat) : List UInt8 × List UInt8 := (Lib.decDigits (frN q), Lib.decDigits q.den)
/-- two texts as api's fraction -/
def ratOf (p : List UInt8 × List UInt8) : Value := .agg #[.string ⟨p.1.toArray⟩, .string ⟨p.2.toArray⟩]
end Go.Proofs.YtnpfdelklolchaaGreatDoor

/- Ratios as texts: plain. -/
namespace Go.Proofs.YtnpfdelklolchaaGreatDoor

/-- digits without a needless 0 -/
def dgB (l : List UInt8) : Bool := !l.isEmpty && l.all (fun c => decide (48 ≤ c.toNat) && decide (c.toNat ≤ 57)) && (l.head? != some 48 || l == [48])
theorem dgB_digits {l : List UInt8} (h : dgB l = true) : l ≠ [] ∧ (∀ c ∈ l, 48 ≤ c.toNat ∧ c.toNat ≤ 57) ∧ (l.head? ≠ some 48 ∨ l = [48]) := by
  unfold dgB at h
  simp only [Bool.and_eq_true, Bool.or_eq_true] at h
  obtain ⟨⟨h1, h2⟩, h3⟩ := h
  refine ⟨by simpa using h1, fun c hc => ?_, ?_⟩
  · have := List.all_eq_true.1 h2 c hc
    simpa using this
  · rcases h3 with h3 | h3
    · left; simpa using h3
    · right; simpa using h3
/-- a number without a needless 0 that is not 0 -/
theorem dgV_pos {l : List UInt8} (h : dgB l = true) (h0 : l ≠ [48]) : 0 < dgV l := by
  obtain ⟨h1, h2, h3⟩ := dgB_digits h
  cases l with
  | nil => exact absurd rfl h1
  | cons c r =>
    have hc := h2 c (by simp)
    have hne : c.toNat ≠ 48 := fun e => by
      rcases h3 with h3 | h3
      · exact h3 (by simp only [List.head?_cons]; congr 1; exact UInt8.toNat_inj.1 e)
      · exact h0 h3
    have e := dgV_from r (10 * 0 + (c.toNat - 48))
    unfold dgV
    rw [List.foldl_cons, e]
    have : 1 * 10 ^ r.length ≤ (10 * 0 + (c.toNat - 48)) * 10 ^ r.length := Nat.mul_le_mul (by omega) (Nat.le_refl _)
    have h10 : 0 < 10 ^ r.length := Nat.pow_pos (by omega)
    omega
/-- the sign, and what stands behind it -/
def sgB (a : List UInt8) : Bool := a.head? == some 45
def unsg (a : List UInt8) : List UInt8 := if sgB a = true then a.drop 1 else a
/-- the code of a ratio: its form, its size, its terms -/
def codeRt (form size : Int) (a b : List UInt8) : Int :=
  if dgB (unsg a) = false ∨ dgB b = false ∨ b = [48] ∨ a = [45, 48] then form else if 2000 < (unsg a).length ∨ 2000 < b.length then size else if Nat.gcd (dgV (unsg a)) (dgV b) = 1 then 0 else form
/-- its value -/
def ratX (a b : List UInt8) : Rat := mkRat (sg (sgB a) (dgV (unsg a))) (dgV b)
theorem codeRt_zero {form size : Int} (hf : form ≠ 0) (hs : size ≠ 0) {a b : List UInt8} (h : codeRt form size a b = 0) :
    dgB (unsg a) = true ∧ dgB b = true ∧ b ≠ [48] ∧ a ≠ [45, 48] ∧ (unsg a).length ≤ 2000 ∧ b.length ≤ 2000 ∧ Nat.gcd (dgV (unsg a)) (dgV b) = 1 := by
  unfold codeRt at h
  by_cases h1 : dgB (unsg a) = false ∨ dgB b = false ∨ b = [48] ∨ a = [45, 48]
  · rw [if_pos h1] at h; exact absurd h hf
  · rw [if_neg h1] at h
    by_cases h2 : 2000 < (unsg a).length ∨ 2000 < b.length
    · rw [if_pos h2] at h; exact absurd h hs
    · rw [if_neg h2] at h
      by_cases h3 : Nat.gcd (dgV (unsg a)) (dgV b) = 1
      · simp only [not_or] at h1
        exact ⟨by simpa using h1.1, by simpa using h1.2.1, h1.2.2.1, h1.2.2.2, by omega, by omega, h3⟩
      · rw [if_neg h3] at h; exact absurd h hf
/-- the parts of the value of a ratio in lowest terms -/
theorem ratX_parts {a b : List UInt8} (hb : 0 < dgV b) (hg : Nat.gcd (dgV (unsg a)) (dgV b) = 1) : frN (ratX a b) = dgV (unsg a) ∧ (ratX a b).den = dgV b ∧ (0 < dgV (unsg a) → frS (ratX a b) = sgB a) ∧ (dgV (unsg a) = 0 → frS (ratX a b) = false) := by
  unfold ratX
  rcases Nat.eq_zero_or_pos (dgV (unsg a)) with h | h
  · rw [h] at hg ⊢
    rw [Nat.gcd_zero_left] at hg
    rw [low_zero, hg]
    exact ⟨rfl, rfl, fun h' => absurd h' (by omega), fun _ => rfl⟩
  · obtain ⟨h1, h2, h3⟩ := low_pos (b := sgB a) h hb
    rw [hg, Nat.div_one] at h2
    rw [hg, Nat.div_one] at h3
    exact ⟨h2, h3, fun _ => h1, fun h' => absurd h' (by omega)⟩
end Go.Proofs.YtnpfdelklolchaaGreatDoor
