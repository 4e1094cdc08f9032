
/- Numbers as lists of digits, the lowest first: plain. -/
namespace Go.Proofs.YtepfmoaihhonlaaGreatDoor

/-- the number with these digits in base B -/
def val (B : Nat) : List Nat → Nat
  | [] => 0
  | d :: r => d + B * val B r
/-- digits below B, no zero at the end -/
def Norm (B : Nat) (l : List Nat) : Prop := (∀ d ∈ l, d < B) ∧ l.getLast? ≠ some 0
theorem val_append (B : Nat) : ∀ a b : List Nat, val B (a ++ b) = val B a + B ^ a.length * val B b
  | [], b => by simp [val]
  | d :: a, b => by
    have ih := val_append B a b
    simp only [List.cons_append, val, ih, List.length_cons, Nat.pow_succ]
    rw [Nat.mul_add, Nat.add_assoc, ← Nat.mul_assoc, Nat.mul_comm B (B ^ a.length)]
theorem val_snoc (B : Nat) (a : List Nat) (d : Nat) : val B (a ++ [d]) = val B a + B ^ a.length * d := by
  rw [val_append]; simp [val]
theorem val_lt {B : Nat} : ∀ {l : List Nat}, (∀ d ∈ l, d < B) → val B l < B ^ l.length
  | [], _ => by simp [val]
  | d :: r, h => by
    have ih := val_lt (fun x hx => h x (by simp [hx]) : ∀ x ∈ r, x < B)
    have hd := h d (by simp)
    simp only [val, List.length_cons, Nat.pow_succ]
    have : B * val B r + B ≤ B ^ r.length * B := by
      have := Nat.mul_le_mul_left B (show val B r + 1 ≤ B ^ r.length by omega)
      rw [Nat.mul_add, Nat.mul_one, Nat.mul_comm B (B ^ r.length)] at this
      exact this
    omega
theorem val_ge {B : Nat} (_hB : 1 < B) {l : List Nat} (h : Norm B l) (hl : l ≠ []) : B ^ (l.length - 1) ≤ val B l := by
  rcases List.eq_nil_or_concat l with rfl | ⟨a, d, rfl⟩
  · exact absurd rfl hl
  · rw [List.concat_eq_append] at *
    have hd : d ≠ 0 := by
      intro e
      apply h.2
      simp [e]
    rw [val_snoc]
    simp only [List.length_append, List.length_singleton, Nat.add_sub_cancel]
    have : B ^ a.length * 1 ≤ B ^ a.length * d := Nat.mul_le_mul_left _ (by omega)
    omega
theorem norm_nil (B : Nat) : Norm B [] := ⟨fun _ h => by simp at h, by simp⟩
theorem val_zero {B : Nat} (hB : 1 < B) {l : List Nat} (h : Norm B l) : val B l = 0 ↔ l = [] := by
  constructor
  · intro h0
    refine Classical.byContradiction fun hl => ?_
    have := val_ge hB h hl
    have : 0 < B ^ (l.length - 1) := Nat.pow_pos (by omega)
    omega
  · rintro rfl; rfl
/-- a longer number is a greater one -/
theorem val_len_lt {B : Nat} (hB : 1 < B) {a b : List Nat} (ha : Norm B a) (hb : Norm B b) (h : a.length < b.length) : val B a < val B b := by
  have h1 := val_lt ha.1
  have hbn : b ≠ [] := by intro e; rw [e] at h; simp at h
  have h2 := val_ge hB hb hbn
  have h3 : B ^ a.length ≤ B ^ (b.length - 1) := Nat.pow_le_pow_right (by omega) (by omega)
  omega
/-- the first place from above at which two numbers of one length part -/
theorem val_part {B : Nat} (a b : List Nat) (x y : Nat) (s : List Nat) (hl : a.length = b.length) (ha : ∀ d ∈ a, d < B) (hxy : x < y) : val B (a ++ x :: s) < val B (b ++ y :: s) := by
  rw [val_append, val_append]
  simp only [val]
  have h1 := val_lt ha
  rw [← hl]
  have h2 : B ^ a.length * (x + B * val B s) + B ^ a.length ≤ B ^ a.length * (y + B * val B s) := by
    have := Nat.mul_le_mul_left (B ^ a.length) (show x + B * val B s + 1 ≤ y + B * val B s by omega)
    rw [Nat.mul_add, Nat.mul_one] at this
    exact this
  omega
theorem val_inj {B : Nat} (hB : 1 < B) : ∀ {a b : List Nat}, Norm B a → Norm B b → val B a = val B b → a = b := by
  intro a
  induction a with
  | nil => intro b _ hb h; exact ((val_zero hB hb).1 h.symm).symm
  | cons d a ih =>
    intro b ha hb h
    cases b with
    | nil => exact (val_zero hB ha).1 h
    | cons e b =>
      have hd := ha.1 d (by simp)
      have he := hb.1 e (by simp)
      simp only [val] at h
      have e1 : d = e := by
        have := congrArg (· % B) h
        simp only [Nat.add_mul_mod_self_left, Nat.mod_eq_of_lt hd, Nat.mod_eq_of_lt he] at this
        exact this
      subst e1
      have e2 : val B a = val B b := Nat.eq_of_mul_eq_mul_left (show 0 < B by omega) (by omega)
      have nt : ∀ {x : Nat} {l : List Nat}, Norm B (x :: l) → Norm B l := by
        intro x l hn
        refine ⟨fun z hz => hn.1 z (by simp [hz]), ?_⟩
        cases l with
        | nil => simp
        | cons y l =>
          have := hn.2
          rwa [List.getLast?_cons_cons] at this
      rw [ih (nt ha) (nt hb) e2]
/-- without zeros at the end -/
def trim : List Nat → List Nat
  | [] => []
  | d :: r => if d = 0 ∧ trim r = [] then [] else d :: trim r
theorem trim_val (B : Nat) : ∀ l, val B (trim l) = val B l
  | [] => rfl
  | d :: r => by
    have ih := trim_val B r
    unfold trim
    split
    · rename_i h
      rw [h.2] at ih
      simp only [val] at *
      rw [← ih, h.1]; simp
    · simp only [val, ih]
theorem trim_norm {B : Nat} : ∀ {l : List Nat}, (∀ d ∈ l, d < B) → Norm B (trim l)
  | [], _ => norm_nil B
  | d :: r, h => by
    have ih := trim_norm (l := r) (fun x hx => h x (by simp [hx]))
    unfold trim
    split
    · exact norm_nil B
    · rename_i hn
      refine ⟨fun x hx => ?_, ?_⟩
      · rcases List.mem_cons.1 hx with e | e
        · rw [e]; exact h d (by simp)
        · exact ih.1 x e
      · cases ht : trim r with
        | nil =>
          simp only [List.getLast?_singleton, ne_eq, Option.some.injEq]
          intro e
          exact hn ⟨e, ht⟩
        | cons y s =>
          rw [List.getLast?_cons_cons, ← ht]
          exact ih.2
/-- the loop that cuts zeros at the end: the first n digits, if those behind them are zeros -/
theorem trim_take : ∀ (l : List Nat) (n : Nat), n ≤ l.length → (∀ i, n ≤ i → i < l.length → l[i]? = some 0) → (n = 0 ∨ l[n - 1]? ≠ some 0) → trim l = l.take n
  | [], n, hn, _, _ => by simp [trim]
  | d :: r, 0, _, hz, _ => by
    have h0 := hz 0 (by omega) (by simp)
    simp at h0
    have := trim_take r 0 (by omega) (fun i _ hi => by have := hz (i + 1) (by omega) (by simp; omega); simpa using this) (.inl rfl)
    unfold trim
    rw [if_pos ⟨h0, by simpa using this⟩]; rfl
  | d :: r, n + 1, hn, hz, hl => by
    simp only [List.length_cons] at hn
    have ih := trim_take r n (by omega) (fun i h1 h2 => by have := hz (i + 1) (by omega) (by simp; omega); simpa using this) (by
      rcases Nat.eq_zero_or_pos n with h | h
      · exact .inl h
      · right
        rcases hl with h' | h'
        · omega
        · have e : n + 1 - 1 = (n - 1) + 1 := by omega
          rw [e, List.getElem?_cons_succ] at h'
          exact h')
    unfold trim
    rw [if_neg, ih]
    · rfl
    · rintro ⟨h1, h2⟩
      rw [ih] at h2
      rcases hl with h' | h'
      · omega
      · cases n with
        | zero => apply h'; simp [h1]
        | succ n =>
          have : r.take (n + 1) = [] := h2
          cases r with
          | nil => simp at hn
          | cons y s => simp at this
theorem trim_length (l : List Nat) : (trim l).length ≤ l.length := by
  induction l with
  | nil => simp [trim]
  | cons d r ih => unfold trim; split <;> simp; omega
end Go.Proofs.YtepfmoaihhonlaaGreatDoor

/- Fractions in lowest terms with a sign apart: what the reference's operations compute, over the core library's rational numbers. No program in sight. -/
namespace Go.Proofs.YtepfmoaihhonlaaGreatDoor

/-- a number with a sign apart -/
def sg (b : Bool) (n : Nat) : Int := if b then -(n : Int) else n
theorem sg_abs (b : Bool) (n : Nat) : (sg b n).natAbs = n := by cases b <;> simp [sg]
theorem sg_self (z : Int) : sg (decide (z < 0)) z.natAbs = z := by
  unfold sg
  by_cases h : z < 0
  · simp [h]; omega
  · simp [h]; omega
theorem sg_neg (b : Bool) (n : Nat) : sg (!b) n = -sg b n := by cases b <;> simp [sg]
theorem sg_mul (a b : Bool) (m n : Nat) : sg a m * sg b n = sg (a != b) (m * n) := by
  cases a <;> cases b <;> simp [sg, Int.neg_mul, Int.mul_neg]
theorem sg_add (a : Bool) (m n : Nat) : sg a m + sg a n = sg a (m + n) := by cases a <;> simp [sg]; omega
theorem sg_sub {a b : Bool} (h : a ≠ b) {m n : Nat} (hmn : n ≤ m) : sg a m + sg b n = sg a (m - n) := by
  cases a <;> cases b <;> simp_all [sg] <;> omega
theorem sg_zero (b : Bool) : sg b 0 = 0 := by cases b <;> rfl
/-- the parts of a rational number as the reference has them -/
def frS (q : Rat) : Bool := decide (q.num < 0)
def frN (q : Rat) : Nat := q.num.natAbs
theorem fr_num (q : Rat) : sg (frS q) (frN q) = q.num := sg_self _
theorem fr_eq (q : Rat) : mkRat (sg (frS q) (frN q)) q.den = q := by rw [fr_num, Rat.mkRat_self]
theorem fr_den (q : Rat) : 0 < q.den := q.den_pos
theorem frN_zero {q : Rat} : frN q = 0 ↔ q = 0 := by
  unfold frN
  rw [Int.natAbs_eq_zero]
  exact Rat.num_eq_zero
/-- Lowest -/
theorem low_zero (b : Bool) (d : Nat) : mkRat (sg b 0) d = 0 := by rw [sg_zero]; exact Rat.zero_mkRat d
theorem fr_zero : frS 0 = false ∧ frN 0 = 0 ∧ (0 : Rat).den = 1 := ⟨rfl, rfl, rfl⟩
theorem low_pos {b : Bool} {n d : Nat} (hn : 0 < n) (hd : 0 < d) : frS (mkRat (sg b n) d) = b ∧ frN (mkRat (sg b n) d) = n / Nat.gcd n d ∧ (mkRat (sg b n) d).den = d / Nat.gcd n d := by
  have hg : 0 < Nat.gcd n d := Nat.gcd_pos_of_pos_left d hn
  have h1 : (mkRat (sg b n) d).num = sg b n / (Nat.gcd n d : Int) := by
    rw [Rat.num_mkRat, if_neg (by omega), sg_abs, Nat.gcd_comm]
  have h2 : sg b n / (Nat.gcd n d : Int) = sg b (n / Nat.gcd n d) := by
    obtain ⟨k, hk⟩ := Nat.gcd_dvd_left n d
    have e : n / Nat.gcd n d = k := by
      conv => lhs; lhs; rw [hk]
      exact Nat.mul_div_cancel_left k hg
    cases b
    · show (n : Int) / (Nat.gcd n d : Int) = (n / Nat.gcd n d : Nat)
      rw [Int.natCast_ediv]
    · show -(n : Int) / (Nat.gcd n d : Int) = -((n / Nat.gcd n d : Nat) : Int)
      rw [Int.neg_ediv_of_dvd (Int.natCast_dvd_natCast.2 (Nat.gcd_dvd_left n d)), Int.natCast_ediv]
  have hq : 0 < n / Nat.gcd n d := Nat.div_pos (Nat.le_of_dvd hn (Nat.gcd_dvd_left n d)) hg
  refine ⟨?_, ?_, ?_⟩
  · unfold frS
    rw [h1, h2]
    cases b
    · show decide (((n / Nat.gcd n d : Nat) : Int) < 0) = false
      simp only [decide_eq_false_iff_not]; omega
    · show decide (-((n / Nat.gcd n d : Nat) : Int) < 0) = true
      simp only [decide_eq_true_iff]; omega
  · unfold frN
    rw [h1, h2, sg_abs]
  · rw [Rat.den_mkRat, if_neg (by omega), sg_abs, Nat.gcd_comm]
/-- the operations -/
theorem sg_mul_nat (b : Bool) (n m : Nat) : sg b (n * m) = sg b n * (m : Int) := by cases b <;> simp [sg, Int.neg_mul]
theorem plus_same {a b : Rat} (h : frS a = frS b) : mkRat (sg (frS a) (frN a * b.den + frN b * a.den)) (a.den * b.den) = a + b := by
  have h2 : sg (frS a) (frN b * a.den) = b.num * a.den := by rw [h, sg_mul_nat, fr_num]
  rw [Rat.add_def', ← sg_add, sg_mul_nat, fr_num, h2]
theorem plus_ge {a b : Rat} (h : frS a ≠ frS b) (hc : frN b * a.den ≤ frN a * b.den) : mkRat (sg (frS a) (frN a * b.den - frN b * a.den)) (a.den * b.den) = a + b := by
  rw [Rat.add_def', ← sg_sub h hc, sg_mul_nat, sg_mul_nat, fr_num, fr_num]
theorem plus_lt {a b : Rat} (h : frS a ≠ frS b) (hc : frN a * b.den ≤ frN b * a.den) : mkRat (sg (frS b) (frN b * a.den - frN a * b.den)) (a.den * b.den) = a + b := by
  rw [Rat.add_def', ← sg_sub (Ne.symm h) hc, sg_mul_nat, sg_mul_nat, fr_num, fr_num, Int.add_comm]
theorem minus_parts (a : Rat) : frS (-a) = (if 0 < frN a then !frS a else frS a) ∧ frN (-a) = frN a ∧ (-a).den = a.den := by
  refine ⟨?_, ?_, rfl⟩
  · unfold frS frN
    rw [Rat.neg_num]
    by_cases h : a.num = 0
    · rw [h]; rfl
    · rw [if_pos (by omega)]
      by_cases h2 : a.num < 0
      · simp [h2]; omega
      · simp [h2]; omega
  · unfold frN; rw [Rat.neg_num, Int.natAbs_neg]
theorem times_eq (a b : Rat) : mkRat (sg (frS a != frS b) (frN a * frN b)) (a.den * b.den) = a * b := by
  rw [Rat.mul_def', ← sg_mul, fr_num, fr_num]
theorem over_eq {a b : Rat} (hb : b ≠ 0) : mkRat (sg (frS a != frS b) (frN a * b.den)) (a.den * frN b) = a / b := by
  have hn : frN b ≠ 0 := fun h => hb (frN_zero.1 h)
  have hbn : b.num ≠ 0 := fun h => hb (Rat.num_eq_zero.1 h)
  have h1 : a / b = Rat.divInt (a.num * b.den) (a.den * b.num) := by
    rw [Rat.div_def, Rat.inv_def]
    conv => lhs; lhs; rw [← Rat.num_divInt_den a]
    rw [Rat.divInt_mul_divInt]
  rw [h1, ← Rat.divInt_ofNat, Rat.divInt_eq_divInt_iff (by simp [hn, a.den_nz]) (by simp [hbn, a.den_nz])]
  have ha := fr_num a
  have hb2 := fr_num b
  rw [← ha]
  conv => lhs; rw [← hb2]
  generalize frN a = x at *
  generalize frN b = y at *
  cases frS a <;> cases frS b <;> simp [sg] <;> grind
/-- the sign of a difference is the comparison -/
def ordQ (a b : Rat) : Int := if a < b then -1 else if a = b then 0 else 1
theorem sign_eq (q : Rat) : (if frN q = 0 then (0 : Int) else if frS q = true then -1 else 1) = (if q < 0 then -1 else if q = 0 then 0 else 1) := by
  by_cases h0 : q = 0
  · subst h0; rfl
  · have hn : frN q ≠ 0 := fun h => h0 (frN_zero.1 h)
    rw [if_neg hn]
    have hs : frS q = true ↔ q < 0 := by
      unfold frS
      rw [decide_eq_true_iff, Rat.lt_iff]
      show q.num < 0 ↔ q.num * (1 : Nat) < 0 * (q.den : Int)
      rw [Int.zero_mul]; omega
    by_cases h : q < 0
    · rw [if_pos (hs.2 h), if_pos h]
    · rw [if_neg (fun h' => h (hs.1 h')), if_neg h, if_neg h0]
theorem ordQ_eq (a b : Rat) : (if a - b < 0 then -1 else if a - b = 0 then 0 else (1 : Int)) = ordQ a b := by
  unfold ordQ
  have h1 : a - b < 0 ↔ a < b := by rw [Rat.sub_lt_iff, Rat.zero_add]
  have h2 : a - b = 0 ↔ a = b := by
    constructor
    · intro h
      have : a - b + b = 0 + b := by rw [h]
      rwa [Rat.sub_add_cancel, Rat.zero_add] at this
    · rintro rfl; exact Rat.sub_self
  simp only [h1, h2]
theorem floor_eq {q : Rat} (h : 0 ≤ q) : ((frN q / q.den : Nat) : Int) = q.floor := by
  rw [Rat.floor_def]
  have : q.num = (frN q : Int) := by
    unfold frN
    have := Rat.num_nonneg.2 h
    omega
  rw [this]; simp
end Go.Proofs.YtepfmoaihhonlaaGreatDoor

/- Lines of stages: areas and arrivals: plain. -/
namespace Go.Proofs.YtepfmoaihhonlaaGreatDoor

/-- a stage: how long, the rates at its beginning and its end -/
structure Stg where
  F : Nat
  a : Nat
  b : Nat
deriving DecidableEq
/-- the parts of a stage: 2 * 10^9 of them are one request -/
def Stg.parts (s : Stg) : Nat := (s.a + s.b) * s.F
/-- the area up to a place, times the denominator -/
def Stg.num (ah : Nat) (s : Stg) (x : Nat) : Nat :=
  if s.a ≤ s.b then ah * s.F + 2 * s.F * s.a * x + (s.b - s.a) * x * x else ah * s.F + 2 * s.F * s.a * x - (s.a - s.b) * x * x
def Stg.den (s : Stg) : Nat := 2 * s.F * 1000000000
/-- the stage at a time: what is ahead, the stage, how far -/
def loc (ah : Nat) : List Stg → Nat → Nat × Stg × Nat
  | [], _ => (ah, ⟨1, 0, 0⟩, 0)
  | [s], t => (ah, s, min t s.F)
  | s :: s' :: r, t => if t < s.F then (ah, s, t) else loc (ah + s.parts) (s' :: r) (t - s.F)
/-- the area at a place is at least n / d -/
def atLeast (n d : Nat) (p : Nat × Stg × Nat) : Prop := n * p.2.1.den ≤ p.2.1.num p.1 p.2.2 * d
instance (n d : Nat) (p : Nat × Stg × Nat) : Decidable (atLeast n d p) := inferInstanceAs (Decidable (_ ≤ _))
/-- the least number from lo on, below hi, for which p holds, else hi -/
def bs (p : Nat → Bool) : Nat → Nat → Nat → Nat
  | 0, lo, _ => lo
  | f + 1, lo, hi => if lo < hi then (if p ((lo + hi) / 2) then bs p f lo ((lo + hi) / 2) else bs p f ((lo + hi) / 2 + 1) hi) else lo
/-- the first time with an area -/
def fst (n d : Nat) (ah bg : Nat) : List Stg → Option Nat
  | [] => none
  | s :: r => if (ah + s.parts) * d < n * 2000000000 then fst n d (ah + s.parts) (bg + s.F) r else some (bg + bs (fun x => decide (atLeast n d (ah, s, x))) 64 0 s.F)

theorem bs_spec (p : Nat → Bool) (hp : ∀ x y, x ≤ y → p x = true → p y = true) : ∀ (f lo hi : Nat), hi - lo < 2 ^ f → lo ≤ hi → (∀ x, x < lo → p x = false) → (p hi = true) → p (bs p f lo hi) = true ∧ (∀ x, x < bs p f lo hi → p x = false) ∧ bs p f lo hi ≤ hi
  | 0, lo, hi, h, hle, hlo, hhi => by
    have : lo = hi := by simp at h; omega
    subst this
    exact ⟨hhi, hlo, Nat.le_refl _⟩
  | f + 1, lo, hi, h, hle, hlo, hhi => by
    unfold bs
    rw [Nat.pow_succ] at h
    by_cases hlt : lo < hi
    · rw [if_pos hlt]
      cases hm : p ((lo + hi) / 2) with
      | true =>
        rw [if_pos rfl]
        have := bs_spec p hp f lo ((lo + hi) / 2) (by omega) (by omega) hlo hm
        exact ⟨this.1, this.2.1, by omega⟩
      | false =>
        rw [if_neg (by simp)]
        refine bs_spec p hp f ((lo + hi) / 2 + 1) hi (by omega) (by omega) (fun x hx => ?_) hhi
        cases hx' : p x with
        | false => rfl
        | true => rw [hp x ((lo + hi) / 2) (by omega) hx'] at hm; cases hm
    · rw [if_neg hlt]
      have : lo = hi := by omega
      subst this
      exact ⟨hhi, hlo, Nat.le_refl _⟩

theorem sq_le {a x F : Nat} (hx : x ≤ F) : a * x * x ≤ F * a * x := by
  rw [Nat.mul_comm F a, Nat.mul_assoc, Nat.mul_assoc]
  exact Nat.mul_le_mul_left _ (Nat.mul_le_mul_right _ hx)
/-- the parts that are taken away are not too many -/
theorem num_fine {ah : Nat} {s : Stg} {x : Nat} (hx : x ≤ s.F) : (s.a - s.b) * x * x ≤ ah * s.F + 2 * s.F * s.a * x := by
  have h1 : (s.a - s.b) * x * x ≤ s.a * x * x := by
    rw [Nat.mul_assoc, Nat.mul_assoc]; exact Nat.mul_le_mul_right _ (by omega)
  have h2 := sq_le (a := s.a) hx
  have h3 : 2 * s.F * s.a * x = s.F * s.a * x + s.F * s.a * x := by
    rw [Nat.mul_assoc 2, Nat.mul_assoc 2]; omega
  omega
theorem num_ge (ah : Nat) (s : Stg) {x : Nat} (hx : x ≤ s.F) : ah * s.F ≤ s.num ah x := by
  unfold Stg.num
  split
  · omega
  · have h1 : (s.a - s.b) * x * x ≤ 0 * s.F + 2 * s.F * s.a * x := num_fine hx
    omega
theorem num_step (ah : Nat) (s : Stg) {x : Nat} (hx : x + 1 ≤ s.F) : s.num ah x ≤ s.num ah (x + 1) := by
  have hf := num_fine (ah := ah) (s := s) (x := x + 1) hx
  have hf0 := num_fine (ah := ah) (s := s) (x := x) (by omega)
  unfold Stg.num
  split
  · have h1 : 2 * s.F * s.a * x ≤ 2 * s.F * s.a * (x + 1) := Nat.mul_le_mul_left _ (by omega)
    have h2 : (s.b - s.a) * x * x ≤ (s.b - s.a) * (x + 1) * (x + 1) := Nat.mul_le_mul (Nat.mul_le_mul_left _ (by omega)) (by omega)
    omega
  · have h1 : 2 * s.F * s.a * (x + 1) = 2 * s.F * s.a * x + 2 * s.F * s.a := by rw [Nat.mul_add, Nat.mul_one]
    have h2 : (s.a - s.b) * (x + 1) * (x + 1) = (s.a - s.b) * x * x + (s.a - s.b) * (2 * x + 1) := by
      simp only [Nat.mul_add, Nat.add_mul, Nat.mul_one]
      have : (s.a - s.b) * (2 * x) = (s.a - s.b) * x + (s.a - s.b) * x := by rw [Nat.mul_left_comm]; omega
      omega
    have h3 : (s.a - s.b) * (2 * x + 1) ≤ 2 * s.F * s.a := by
      have := Nat.mul_le_mul (show s.a - s.b ≤ s.a by omega) (show 2 * x + 1 ≤ 2 * s.F by omega)
      rw [Nat.mul_comm s.a] at this
      exact this
    omega
theorem num_mono (ah : Nat) (s : Stg) : ∀ {x y : Nat}, x ≤ y → y ≤ s.F → s.num ah x ≤ s.num ah y := by
  intro x y h
  induction h with
  | refl => intro _; exact Nat.le_refl _
  | step h ih => intro hy; exact Nat.le_trans (ih (by omega)) (num_step ah s hy)
theorem num_end (ah : Nat) (s : Stg) : s.num ah s.F = (ah + s.parts) * s.F := by
  unfold Stg.num Stg.parts
  split
  · rename_i h
    obtain ⟨c, hc⟩ : ∃ c, s.b = s.a + c := ⟨s.b - s.a, by omega⟩
    rw [hc, Nat.add_sub_cancel_left]
    simp only [Nat.add_mul, Nat.mul_assoc, Nat.mul_comm s.F, Nat.two_mul]
    omega
  · rename_i h
    obtain ⟨c, hc⟩ : ∃ c, s.a = s.b + c := ⟨s.a - s.b, by omega⟩
    rw [hc, Nat.add_sub_cancel_left]
    have : ah * s.F + 2 * s.F * (s.b + c) * s.F = (ah + (s.b + c + s.b) * s.F) * s.F + c * s.F * s.F := by
      simp only [Nat.add_mul, Nat.mul_add, Nat.mul_assoc, Nat.mul_comm s.F, Nat.two_mul]
      omega
    omega
/-- at the end of a stage -/
theorem atLeast_end {n d ah : Nat} {s : Stg} (hF : 0 < s.F) : atLeast n d (ah, s, s.F) ↔ n * 2000000000 ≤ (ah + s.parts) * d := by
  unfold atLeast
  simp only [num_end, Stg.den]
  have e1 : n * (2 * s.F * 1000000000) = n * 2000000000 * s.F := by
    rw [Nat.mul_right_comm 2, Nat.mul_assoc n]
  rw [e1, show (ah + s.parts) * s.F * d = (ah + s.parts) * d * s.F from Nat.mul_right_comm _ _ _]
  exact ⟨fun h => Nat.le_of_mul_le_mul_right h hF, fun h => Nat.mul_le_mul_right _ h⟩
/-- what is ahead is enough -/
theorem atLeast_ahead {n d ah : Nat} {s : Stg} {x : Nat} (hx : x ≤ s.F) (h : n * 2000000000 ≤ ah * d) : atLeast n d (ah, s, x) := by
  unfold atLeast
  simp only [Stg.den]
  have e1 : n * (2 * s.F * 1000000000) = n * 2000000000 * s.F := by
    rw [Nat.mul_right_comm 2, Nat.mul_assoc n]
  rw [e1]
  have h1 := Nat.mul_le_mul_right s.F h
  have h2 := Nat.mul_le_mul_right d (num_ge ah s hx)
  rw [Nat.mul_right_comm] at h2
  omega
theorem atLeast_mono {n d ah : Nat} {s : Stg} {x y : Nat} (hxy : x ≤ y) (hy : y ≤ s.F) (h : atLeast n d (ah, s, x)) : atLeast n d (ah, s, y) := by
  unfold atLeast at *
  exact Nat.le_trans h (Nat.mul_le_mul_right _ (num_mono ah s hxy hy))
theorem loc_ahead {n d : Nat} : ∀ (l : List Stg) (ah t : Nat), l ≠ [] → n * 2000000000 ≤ ah * d → atLeast n d (loc ah l t)
  | [], _, _, h, _ => absurd rfl h
  | [s], ah, t, _, h => atLeast_ahead (Nat.min_le_right _ _) h
  | s :: s' :: r, ah, t, _, h => by
    unfold loc
    split
    · exact atLeast_ahead (by omega) h
    · refine loc_ahead (s' :: r) _ _ (by simp) (Nat.le_trans h (Nat.mul_le_mul_right _ (by omega)))
/-- the place of the first time in its stage -/
theorem bs_place {n d ah : Nat} {s : Stg} (hF : 0 < s.F) (hF2 : s.F < 2 ^ 64) (h : ¬ (ah + s.parts) * d < n * 2000000000) :
    ∃ X, bs (fun x => decide (atLeast n d (ah, s, x))) 64 0 s.F = X ∧ X ≤ s.F ∧ ∀ x, x ≤ s.F → (X ≤ x ↔ atLeast n d (ah, s, x)) := by
  have key : ∀ (f lo hi : Nat), hi ≤ s.F → hi - lo < 2 ^ f → lo ≤ hi → (∀ x, x < lo → ¬ atLeast n d (ah, s, x)) → atLeast n d (ah, s, hi) →
      atLeast n d (ah, s, bs (fun x => decide (atLeast n d (ah, s, x))) f lo hi) ∧ (∀ x, x < bs (fun x => decide (atLeast n d (ah, s, x))) f lo hi → ¬ atLeast n d (ah, s, x)) ∧ bs (fun x => decide (atLeast n d (ah, s, x))) f lo hi ≤ hi := by
    intro f
    induction f with
    | zero =>
      intro lo hi _ h1 h2 h3 h4
      have : lo = hi := by simp at h1; omega
      subst this
      exact ⟨h4, h3, Nat.le_refl _⟩
    | succ f ih =>
      intro lo hi h0 h1 h2 h3 h4
      unfold bs
      rw [Nat.pow_succ] at h1
      by_cases hlt : lo < hi
      · rw [if_pos hlt]
        by_cases hm : atLeast n d (ah, s, (lo + hi) / 2)
        · rw [if_pos (by simpa using hm)]
          have := ih lo ((lo + hi) / 2) (by omega) (by omega) (by omega) h3 hm
          exact ⟨this.1, this.2.1, by omega⟩
        · rw [if_neg (by simpa using hm)]
          exact ih ((lo + hi) / 2 + 1) hi h0 (by omega) (by omega) (fun x hx hx' => hm (atLeast_mono (by omega) (by omega) hx')) h4
      · rw [if_neg hlt]
        have : lo = hi := by omega
        subst this
        exact ⟨h4, h3, Nat.le_refl _⟩
  have hk := key 64 0 s.F (Nat.le_refl _) (by omega) (Nat.zero_le _) (fun x hx => by omega) ((atLeast_end hF).2 (by omega))
  refine ⟨_, rfl, hk.2.2, fun x hx => ⟨fun h' => atLeast_mono h' hx hk.1, fun h' => ?_⟩⟩
  rcases Nat.lt_or_ge x (bs (fun x => decide (atLeast n d (ah, s, x))) 64 0 s.F) with h2 | h2
  · exact absurd h' (hk.2.1 x h2)
  · exact h2
/-- the first time with an area: there it is reached, and not before -/
theorem fst_some {n d : Nat} : ∀ (l : List Stg) (ah bg T : Nat), (∀ s ∈ l, 0 < s.F ∧ s.F < 2 ^ 64) → fst n d ah bg l = some T → bg ≤ T ∧ ∀ t, (T ≤ bg + t ↔ atLeast n d (loc ah l t))
  | [], _, _, _, _, h => by cases h
  | s :: r, ah, bg, T, hl, h => by
    unfold fst at h
    have hs := hl s (by simp)
    by_cases hc : (ah + s.parts) * d < n * 2000000000
    · rw [if_pos hc] at h
      cases r with
      | nil => cases h
      | cons s' r =>
        have ih := fst_some (s' :: r) (ah + s.parts) (bg + s.F) T (fun x hx => hl x (by simp at hx ⊢; right; exact hx)) h
        refine ⟨by omega, fun t => ?_⟩
        unfold loc
        by_cases ht : t < s.F
        · rw [if_pos ht]
          refine ⟨fun h' => by omega, fun h' => ?_⟩
          have := (atLeast_end hs.1).1 (atLeast_mono (Nat.le_of_lt ht) (Nat.le_refl _) h')
          omega
        · rw [if_neg ht, ← ih.2 (t - s.F)]
          omega
    · rw [if_neg hc] at h
      obtain ⟨X, hX, hXF, hXs⟩ := bs_place hs.1 hs.2 hc
      rw [hX] at h
      have h := Option.some.inj h
      refine ⟨by omega, fun t => ?_⟩
      cases r with
      | nil =>
        unfold loc
        rw [← hXs _ (Nat.min_le_right _ _)]
        omega
      | cons s' r =>
        unfold loc
        by_cases ht : t < s.F
        · rw [if_pos ht, ← hXs t (by omega)]; omega
        · rw [if_neg ht]
          refine ⟨fun _ => loc_ahead _ _ _ (by simp) (by omega), fun _ => by omega⟩
theorem fst_none {n d : Nat} : ∀ (l : List Stg) (ah bg : Nat), (∀ s ∈ l, 0 < s.F) → l ≠ [] → fst n d ah bg l = none → ∀ t, ¬ atLeast n d (loc ah l t)
  | [], _, _, _, h, _ => absurd rfl h
  | s :: r, ah, bg, hl, _, h => by
    unfold fst at h
    by_cases hc : (ah + s.parts) * d < n * 2000000000
    · rw [if_pos hc] at h
      intro t h'
      cases r with
      | nil =>
        unfold loc at h'
        have := (atLeast_end (hl s (by simp))).1 (atLeast_mono (Nat.min_le_right _ _) (Nat.le_refl _) h')
        omega
      | cons s' r =>
        unfold loc at h'
        by_cases ht : t < s.F
        · rw [if_pos ht] at h'
          have := (atLeast_end (hl s (by simp))).1 (atLeast_mono (Nat.le_of_lt ht) (Nat.le_refl _) h')
          omega
        · rw [if_neg ht] at h'
          exact fst_none (s' :: r) _ _ (fun x hx => hl x (by simp at hx ⊢; right; exact hx)) (by simp) h _ h'
    · rw [if_neg hc] at h; cases h
/-- how many arrivals are at a time or earlier -/
def upto (p : Nat × Stg × Nat) : Nat := (p.2.1.num p.1 p.2.2 * 2 + p.2.1.den) / (p.2.1.den * 2)
theorem lt_upto {k : Nat} {p : Nat × Stg × Nat} (hF : 0 < p.2.1.F) : k < upto p ↔ atLeast (2 * k + 1) 2 p := by
  unfold upto atLeast
  have hd : 0 < p.2.1.den * 2 := by unfold Stg.den; have := Nat.mul_pos (show 0 < 2 by omega) hF; omega
  rw [← Nat.succ_le_iff, Nat.le_div_iff_mul_le hd]
  have e1 : Nat.succ k * (p.2.1.den * 2) = 2 * k * p.2.1.den + 2 * p.2.1.den := by
    rw [Nat.succ_mul, Nat.mul_comm p.2.1.den 2, ← Nat.mul_assoc, Nat.mul_comm k 2]
  have e2 : (2 * k + 1) * p.2.1.den = 2 * k * p.2.1.den + p.2.1.den := by rw [Nat.add_mul, Nat.one_mul]
  rw [e1, e2]; omega
end Go.Proofs.YtepfmoaihhonlaaGreatDoor

/- Division digit by digit: plain. -/
namespace Go.Proofs.YtepfmoaihhonlaaGreatDoor

theorem kn_le {B y1 y0 u d q r : Nat} (h : q * y1 + r = u) (ht : q * y0 ≤ B * r + d) : q * (y1 * B + y0) ≤ u * B + d := by
  rw [← h, Nat.mul_add, Nat.add_mul, ← Nat.mul_assoc, Nat.mul_comm r B]; omega
theorem kn_gt {B y1 y0 u d q r : Nat} (h : q * y1 + r = u) (ht : B * r + d < q * y0) : u * B + d < q * (y1 * B + y0) := by
  rw [← h, Nat.mul_add, Nat.add_mul, ← Nat.mul_assoc, Nat.mul_comm r B]; omega
theorem kn_first {B y1 y0 u d : Nat} (hy : 0 < y1) (hd : d < B) : (u * B + d) / (y1 * B + y0) ≤ u / y1 := by
  have hB : 0 < B := by omega
  have hyp : 0 < y1 * B + y0 := by have := Nat.mul_pos hy hB; omega
  refine Nat.le_of_lt_succ ((Nat.div_lt_iff_lt_mul hyp).2 ?_)
  have h1 := Nat.lt_mul_div_succ u hy
  have h2 := Nat.mul_le_mul_right B (show u + 1 ≤ y1 * (u / y1 + 1) from h1)
  have h3 : (u / y1).succ * (y1 * B + y0) = y1 * (u / y1 + 1) * B + (u / y1 + 1) * y0 := by
    rw [Nat.mul_add, Nat.mul_comm y1 (u / y1 + 1), Nat.mul_assoc]
  rw [h3]
  rw [Nat.add_mul] at h2
  omega
theorem kn_bound {B y1 y0 u : Nat} (hy : B ≤ 2 * y1) (h0 : y0 < B) (hu : u < y1 * B + y0) : u / y1 ≤ B + 1 := by
  have hy1 : 0 < y1 := by omega
  refine Nat.le_of_lt_succ ((Nat.div_lt_iff_lt_mul hy1).2 ?_)
  have : (B + 1).succ * y1 = y1 * B + 2 * y1 := by rw [Nat.succ_mul, Nat.add_mul, Nat.mul_comm B y1]; omega
  omega
theorem kn_break {B y1 y0 u d q r : Nat} (h : q * y1 + r = u) (hr : B ≤ r) (hq : q ≤ B) (h0 : y0 < B) : q * (y1 * B + y0) ≤ u * B + d := by
  refine kn_le h ?_
  have h1 := Nat.mul_le_mul_right y0 hq
  have h2 := Nat.mul_le_mul_left B (show y0 ≤ r by omega)
  omega
theorem kn_is {N y q : Nat} (hy : 0 < y) (h1 : q * y ≤ N) (h2 : N / y ≤ q) : q = N / y :=
  Nat.le_antisymm ((Nat.le_div_iff_mul_le hy).2 h1) h2
theorem kn_less {N y q : Nat} (hy : 0 < y) (h : N < q * y) : N / y < q := (Nat.div_lt_iff_lt_mul hy).2 h
/-- two digits, one after the other -/
theorem two_digits {u a b B y : Nat} (hy : 0 < y) :
    ((u * B + a) * B + b) / y = (u * B + a) / y * B + ((u * B + a) % y * B + b) / y ∧ ((u * B + a) * B + b) % y = ((u * B + a) % y * B + b) % y := by
  have h1 := Nat.div_add_mod (u * B + a) y
  have e : (u * B + a) * B + b = ((u * B + a) % y * B + b) + (u * B + a) / y * B * y := by
    conv => lhs; rw [← h1]
    rw [Nat.add_mul, Nat.mul_comm y, Nat.mul_assoc, Nat.mul_comm y B, ← Nat.mul_assoc]; omega
  constructor
  · rw [e, Nat.add_mul_div_right _ _ hy]; omega
  · rw [e, Nat.add_mul_mod_self_right]
theorem digit_lt {u a B y : Nat} (hu : u < y) (ha : a < B) : (u * B + a) / y < B := by
  refine (Nat.div_lt_iff_lt_mul (by omega)).2 ?_
  have h1 := Nat.mul_le_mul_right B (show u + 1 ≤ y from hu)
  rw [Nat.add_mul, Nat.mul_comm y B] at h1
  omega
/-- both shifted -/
theorem shifted {N y p : Nat} (hp : 0 < p) : N * p / (y * p) = N / y ∧ N * p % (y * p) = N % y * p :=
  ⟨Nat.mul_div_mul_right _ _ hp, Nat.mul_mod_mul_right _ _ _⟩

theorem drop_two {l : List Nat} {k s t : Nat} (hl : l.length = k + 2) (h1 : l[k]? = some s) (h2 : l[k + 1]? = some t) : l = l.take k ++ [s, t] := by
  conv => lhs; rw [← List.take_append_drop k l]
  congr 1
  have e1 := (List.getElem?_eq_some_iff.1 h1)
  have e2 := (List.getElem?_eq_some_iff.1 h2)
  rw [List.drop_eq_getElem_cons e1.1, List.drop_eq_getElem_cons e2.1, e1.2, e2.2, List.drop_eq_nil_of_le (by omega)]
theorem val_two {B : Nat} {l : List Nat} {k s t : Nat} (hl : l.length = k + 2) (h1 : l[k]? = some s) (h2 : l[k + 1]? = some t) : val B l = val B (l.take k) + B ^ k * (s + B * t) := by
  conv => lhs; rw [drop_two hl h1 h2, val_append]
  have : (l.take k).length = k := by simp; omega
  rw [this]; simp [val]
theorem drop_three {l : List Nat} {k r s t : Nat} (hl : l.length = k + 3) (h0 : l[k]? = some r) (h1 : l[k + 1]? = some s) (h2 : l[k + 2]? = some t) : l = l.take k ++ [r, s, t] := by
  conv => lhs; rw [← List.take_append_drop k l]
  congr 1
  have e0 := (List.getElem?_eq_some_iff.1 h0)
  have e1 := (List.getElem?_eq_some_iff.1 h1)
  have e2 := (List.getElem?_eq_some_iff.1 h2)
  rw [List.drop_eq_getElem_cons e0.1, List.drop_eq_getElem_cons e1.1, List.drop_eq_getElem_cons e2.1, e0.2, e1.2, e2.2, List.drop_eq_nil_of_le (by omega)]
theorem val_three {B : Nat} {l : List Nat} {k r s t : Nat} (hl : l.length = k + 3) (h0 : l[k]? = some r) (h1 : l[k + 1]? = some s) (h2 : l[k + 2]? = some t) : val B l = val B (l.take k) + B ^ k * (r + B * (s + B * t)) := by
  conv => lhs; rw [drop_three hl h0 h1 h2, val_append]
  have : (l.take k).length = k := by simp; omega
  rw [this]; simp [val]
/-- the first guess of a digit is not too small -/
theorem guess_first {B P X' D' a2 a1 a0 T S : Nat} (hX : X' < P) (ha0 : a0 < B) (hT : 0 < T) :
    (X' + P * (a0 + B * (a1 + B * a2))) / (D' + P * (S + B * T)) ≤ (a2 * B + a1) / T := by
  have e1 : X' + P * (a0 + B * (a1 + B * a2)) = (a2 * B + a1) * (P * B) + (X' + P * a0) := by
    rw [Nat.mul_add, ← Nat.mul_assoc P B, Nat.mul_comm (P * B), Nat.mul_comm B a2, Nat.add_comm a1]; omega
  have e2 : D' + P * (S + B * T) = T * (P * B) + (D' + P * S) := by
    rw [Nat.mul_add, ← Nat.mul_assoc P B, Nat.mul_comm (P * B) T]; omega
  rw [e1, e2]
  refine kn_first hT ?_
  have := Nat.mul_le_mul_left P (show a0 + 1 ≤ B from ha0)
  rw [Nat.mul_add] at this
  omega
/-- a guess that is too great for the upper words is too great -/
theorem guess_less {B P X' D' a2 a1 a0 T S q r : Nat} (hX : X' < P) (h : q * T + r = a2 * B + a1) (ht : r * B + a0 < q * S) :
    X' + P * (a0 + B * (a1 + B * a2)) < q * (D' + P * (S + B * T)) := by
  have h1 : (a2 * B + a1) * B + a0 + 1 ≤ q * (T * B + S) := kn_gt (B := B) h (by rw [Nat.mul_comm B r]; exact ht)
  have h2 := Nat.mul_le_mul_left P h1
  have e1 : P * (a0 + B * (a1 + B * a2)) + P = P * ((a2 * B + a1) * B + a0 + 1) := by
    rw [Nat.mul_add P _ 1, Nat.mul_one, Nat.mul_comm (a2 * B + a1) B, Nat.mul_comm a2 B, Nat.add_comm (B * a2) a1, Nat.add_comm (B * (a1 + B * a2)) a0]
  have e2 : q * (D' + P * (S + B * T)) = q * D' + P * (q * (T * B + S)) := by
    rw [Nat.mul_add, Nat.mul_comm B T, Nat.add_comm S, Nat.mul_left_comm]
  rw [e2]; omega

/-- the number of m digits from place j on -/
def win (B : Nat) (l : List Nat) (j : Nat) : Nat → Nat
  | 0 => 0
  | m + 1 => win B l j m + B ^ m * (l[j + m]?.getD 0)
theorem win_succ {B : Nat} {l : List Nat} {j m d : Nat} (h : l[j + m]? = some d) : win B l j (m + 1) = win B l j m + B ^ m * d := by
  show win B l j m + B ^ m * (l[j + m]?.getD 0) = _
  rw [h]; rfl
theorem win_congr {B : Nat} {l l' : List Nat} {j : Nat} : ∀ {m : Nat}, (∀ i, j ≤ i → i < j + m → l[i]? = l'[i]?) → win B l j m = win B l' j m
  | 0, _ => rfl
  | m + 1, h => by
    show win B l j m + B ^ m * (l[j + m]?.getD 0) = win B l' j m + B ^ m * (l'[j + m]?.getD 0)
    rw [win_congr (m := m) (fun i h1 h2 => h i h1 (by omega)), h (j + m) (by omega) (by omega)]
theorem win_lt {B : Nat} (hB : 0 < B) {l : List Nat} (hl : ∀ d ∈ l, d < B) (j : Nat) : ∀ m, win B l j m < B ^ m
  | 0 => by simp [win]
  | m + 1 => by
    have ih := win_lt hB hl j m
    have hd : l[j + m]?.getD 0 < B := by
      cases h : l[j + m]? with
      | none => simpa using hB
      | some d => exact hl d (List.mem_of_getElem? h)
    have h2 := Nat.mul_le_mul_left (B ^ m) (show l[j + m]?.getD 0 + 1 ≤ B from hd)
    show win B l j m + B ^ m * (l[j + m]?.getD 0) < _
    rw [Nat.pow_succ]
    rw [Nat.mul_add] at h2
    omega
theorem win_val {B : Nat} {l : List Nat} {j : Nat} : ∀ {m : Nat}, j + m ≤ l.length → win B l j m = val B ((l.drop j).take m)
  | 0, _ => by simp [win, val]
  | m + 1, h => by
    have hm : j + m < l.length := by omega
    rw [win_succ (List.getElem?_eq_getElem hm), win_val (m := m) (by omega)]
    have e : (l.drop j)[m]? = some l[j + m] := by rw [List.getElem?_drop]; exact List.getElem?_eq_getElem hm
    rw [List.take_add_one, e]
    simp only [Option.toList_some]
    rw [val_snoc]
    have : ((l.drop j).take m).length = m := by simp; omega
    rw [this]
theorem val_win {B : Nat} {l : List Nat} {j m : Nat} (h : j + m ≤ l.length) : val B l = val B (l.take j) + B ^ j * win B l j m + B ^ (j + m) * val B (l.drop (j + m)) := by
  have h1 : (l.take j).length = j := by simp; omega
  have h2 : ((l.drop j).take m).length = m := by simp; omega
  conv => lhs; rw [← List.take_append_drop j l, val_append, ← List.take_append_drop m (l.drop j), val_append]
  rw [h1, h2, win_val h, List.drop_drop, Nat.mul_add, ← Nat.mul_assoc, ← Nat.pow_add]; omega
theorem val_set0 {B : Nat} : ∀ {l : List Nat} {j q : Nat}, l[j]? = some 0 → val B (l.set j q) = val B l + B ^ j * q
  | [], j, q, h => by simp at h
  | d :: r, 0, q, h => by
    have h : d = 0 := by simpa using h
    simp [val, h]; omega
  | d :: r, j + 1, q, h => by
    have ih := val_set0 (l := r) (j := j) (q := q) (B := B) (by simpa using h)
    simp only [List.set_cons_succ, val, ih, Nat.pow_succ, Nat.mul_add]
    rw [Nat.mul_comm (B ^ j) B, Nat.mul_assoc]; omega
/-- taking away q times D: enough, or too much -/
theorem take_enough {X D w v M : Nat} (hD : 0 < D) (h : v + w * D = X + M * 0) (hw : X / D ≤ w) : w = X / D ∧ v = X % D := by
  have h1 : w ≤ X / D := (Nat.le_div_iff_mul_le hD).2 (by omega)
  have h2 : w = X / D := by omega
  refine ⟨h2, ?_⟩
  have := Nat.div_add_mod X D
  rw [h2, Nat.mul_comm] at h
  omega
theorem take_much {X D w v M : Nat} (h : v + w * D = X + M * 1) (hv : v < M) : X < w * D := by omega
/-- giving back: not yet, or now -/
theorem give_now {X D w v v' M : Nat} (hD : 0 < D) (h : v + (w + 1) * D = X + M) (hX : X < (w + 1) * D) (hg : v' + M * 1 = v + D) : w = X / D ∧ v' = X % D := by
  rw [Nat.add_mul] at h hX
  refine take_enough (M := M) hD (by omega) ?_
  refine Nat.le_of_lt_succ ((Nat.div_lt_iff_lt_mul hD).2 ?_)
  rw [Nat.succ_mul]; omega
theorem give_more {X D w v v' M : Nat} (h : v + (w + 1) * D = X + M) (hg : v' + M * 0 = v + D) (hv : v' < M) : v' + w * D = X + M ∧ X < w * D := by
  rw [Nat.add_mul] at h; omega
/-- one digit of the quotient, the number and the quotient so far -/
theorem div_step {B D n j Q : Nat} {x x' q : List Nat} (hDB : D ≤ B ^ n) (hx : ∀ d ∈ x, d < B) (hl : x'.length = x.length) (hj : j + n + 1 ≤ x.length) (hlt : val B x < D * B ^ (j + 1))
    (hsame : ∀ i, i < j ∨ j + (n + 1) ≤ i → x'[i]? = x[i]?) (hQ : Q = win B x j (n + 1) / D) (hR : win B x' j (n + 1) = win B x j (n + 1) % D) (hq : q[j]? = some 0) (hD : 0 < D) :
    val B x' < D * B ^ j ∧ val B x' + D * val B (q.set j Q) = val B x + D * val B q := by
  have e0 : val B (x.drop (j + (n + 1))) = 0 := by
    have h1 := val_win (B := B) (l := x) (j := j) (m := n + 1) (by omega)
    have h2 : D * B ^ (j + 1) ≤ B ^ (j + (n + 1)) := by
      have := Nat.mul_le_mul_right (B ^ (j + 1)) hDB
      rwa [← Nat.pow_add, show n + (j + 1) = j + (n + 1) by omega] at this
    rcases Nat.eq_zero_or_pos (val B (x.drop (j + (n + 1)))) with h | h
    · exact h
    · have h3 := Nat.mul_le_mul_left (B ^ (j + (n + 1))) h
      rw [Nat.mul_one] at h3
      omega
  have et : x'.take j = x.take j := by
    apply List.ext_getElem?
    intro i
    rw [List.getElem?_take, List.getElem?_take]
    split
    · exact hsame i (.inl (by omega))
    · rfl
  have ed : x'.drop (j + (n + 1)) = x.drop (j + (n + 1)) := by
    apply List.ext_getElem?
    intro i
    rw [List.getElem?_drop, List.getElem?_drop]
    exact hsame _ (.inr (by omega))
  have v1 := val_win (B := B) (l := x) (j := j) (m := n + 1) (by omega)
  have v2 := val_win (B := B) (l := x') (j := j) (m := n + 1) (by omega)
  rw [ed, et, e0] at v2
  rw [e0] at v1
  have ht : val B (x.take j) < B ^ j := by
    have := val_lt (B := B) (l := x.take j) (fun d hd => hx d (List.mem_of_mem_take hd))
    have e : (x.take j).length = j := by simp; omega
    rwa [e] at this
  have hm : win B x' j (n + 1) < D := by rw [hR]; exact Nat.mod_lt _ hD
  constructor
  · have := Nat.mul_le_mul_left (B ^ j) (show win B x' j (n + 1) + 1 ≤ D from hm)
    rw [Nat.mul_add, Nat.mul_comm (B ^ j) D] at this
    omega
  · rw [val_set0 hq, v1, v2, Nat.mul_add, hR]
    have h3 := Nat.div_add_mod (win B x j (n + 1)) D
    have h4 : D * (B ^ j * Q) = B ^ j * (D * (win B x j (n + 1) / D)) := by rw [hQ, Nat.mul_left_comm]
    have h5 : B ^ j * win B x j (n + 1) = B ^ j * (D * (win B x j (n + 1) / D)) + B ^ j * (win B x j (n + 1) % D) := by rw [← Nat.mul_add, h3]
    rw [h4, h5]; omega
end Go.Proofs.YtepfmoaihhonlaaGreatDoor

/- Times and tokens, in plain Lean: what checkTimes, fill, take and Admit return; the law of Admit. -/
namespace Go.Proofs.YtepfmoaihhonlaaGreatDoor

/-- the code of the element at a place -/
def elT (l : List Int) (i : Nat) : Int := if l.getD i 0 < 0 ∨ 1000000000000 < l.getD i 0 then 9 else if 0 < i ∧ l.getD i 0 < l.getD (i - 1) 0 then 10 else 0
def codeT (l : List Int) : Int := if 20000 < l.length then 3 else (((List.range l.length).map (elT l)).find? (· != 0)).getD 0
theorem codeT_at {l : List Int} {k : Nat} (hn : ¬ 20000 < l.length) (hk : k < l.length) (h0 : ∀ j, j < k → elT l j = 0) (hb : elT l k ≠ 0) : codeT l = elT l k := by
  unfold codeT; rw [if_neg hn]
  have e : List.range l.length = List.range k ++ (k :: (List.range (l.length - k - 1)).map (k + 1 + ·)) := by
    conv => lhs; rw [show l.length = k + (1 + (l.length - k - 1)) by omega, List.range_add]
    congr 1
    rw [List.range_add]
    simp [Nat.add_assoc]
  rw [e, List.map_append, List.find?_append]
  have h1 : ((List.range k).map (elT l)).find? (· != 0) = none := by
    rw [List.find?_eq_none]; intro x hx
    obtain ⟨j, hj, rfl⟩ := List.mem_map.1 hx
    simp [h0 j (by simpa using hj)]
  rw [h1]
  simp [hb]
theorem codeT_end {l : List Int} (hn : ¬ 20000 < l.length) (h0 : ∀ j, j < l.length → elT l j = 0) : codeT l = 0 := by
  unfold codeT; rw [if_neg hn]
  have h1 : ((List.range l.length).map (elT l)).find? (· != 0) = none := by
    rw [List.find?_eq_none]; intro x hx
    obtain ⟨j, hj, rfl⟩ := List.mem_map.1 hx
    simp [h0 j (by simpa using hj)]
  rw [h1]; rfl
/-- a list that checkTimes accepts -/
structure OkT (l : List Int) : Prop where
  le : l.length ≤ 20000
  el : ∀ j, j < l.length → elT l j = 0
theorem codeT_ok {l : List Int} (h : codeT l = 0) : OkT l := by
  have hn : ¬ 20000 < l.length := by
    intro hn; unfold codeT at h; rw [if_pos hn] at h; omega
  refine ⟨by omega, fun j hj => ?_⟩
  unfold codeT at h; rw [if_neg hn] at h
  cases hf : ((List.range l.length).map (elT l)).find? (· != 0) with
  | some x =>
    rw [hf] at h
    have := List.find?_some hf
    simp at this h
    exact absurd h this
  | none =>
    rw [List.find?_eq_none] at hf
    have := hf (elT l j) (List.mem_map.2 ⟨j, by simpa using hj, rfl⟩)
    simpa using this
theorem OkT.code {l : List Int} (h : OkT l) : codeT l = 0 := codeT_end (by have := h.le; omega) h.el
theorem OkT.range {l : List Int} (h : OkT l) {j : Nat} {t : Int} (hj : l[j]? = some t) : 0 ≤ t ∧ t ≤ 1000000000000 := by
  have hl := (List.getElem?_eq_some_iff.1 hj).1
  have := h.el j hl
  have e : l.getD j 0 = t := by rw [List.getD_eq_getElem?_getD, hj]; rfl
  unfold elT at this
  rw [e] at this
  split at this
  · omega
  · omega

/-- the vessel (have, at) at a later time -/
def fillS (R r : Int) (s : Int × Int) (t : Int) : Int × Int :=
  (if 0 < r ∧ s.2 < t then (if (R - s.1) / r < t - s.2 then R else s.1 + r * (t - s.2)) else s.1, max s.2 t)
/-- the vessel behind a token; it tells the time -/
def takeS (R r : Int) (s : Int × Int) (t : Int) : Option (Int × Int) :=
  if 0 < 1000000000 - (fillS R r s t).1 then
    (if r = 0 then none else
      some ((fillS R r (fillS R r s t) ((fillS R r s t).2 + (1000000000 - (fillS R r s t).1 + r - 1) / r)).1 - 1000000000, (fillS R r (fillS R r s t) ((fillS R r s t).2 + (1000000000 - (fillS R r s t).1 + r - 1) / r)).2))
  else some ((fillS R r s t).1 - 1000000000, (fillS R r s t).2)

theorem ediv_lo {a r : Int} (hr : 0 < r) : r * (a / r) ≤ a ∧ a < r * (a / r) + r := by
  have h1 := Int.mul_ediv_add_emod a r
  have h2 := Int.emod_nonneg a (show r ≠ 0 by omega)
  have h3 := Int.emod_lt_of_pos a hr
  omega
theorem fill_bd {R r h a t : Int} (hr : 0 ≤ r) (hh : h ≤ R) : h ≤ (fillS R r (h, a) t).1 ∧ (fillS R r (h, a) t).1 ≤ R ∧ (fillS R r (h, a) t).1 ≤ h + r * ((fillS R r (h, a) t).2 - a) ∧ a ≤ (fillS R r (h, a) t).2 ∧ t ≤ (fillS R r (h, a) t).2 := by
  unfold fillS
  simp only
  by_cases h1 : 0 < r ∧ a < t
  · rw [if_pos h1]
    obtain ⟨h1, h2⟩ := h1
    have hm : max a t = t := by omega
    rw [hm]
    obtain ⟨e1, e2⟩ := ediv_lo (a := R - h) h1
    by_cases h3 : (R - h) / r < t - a
    · rw [if_pos h3]
      have : r * ((R - h) / r + 1) ≤ r * (t - a) := Int.mul_le_mul_of_nonneg_left (by omega) (by omega)
      rw [Int.mul_add] at this
      omega
    · rw [if_neg h3]
      have h4 : r * (t - a) ≤ r * ((R - h) / r) := Int.mul_le_mul_of_nonneg_left (by omega) (by omega)
      have h5 : 0 ≤ r * (t - a) := Int.mul_nonneg (by omega) (by omega)
      omega
  · rw [if_neg h1]
    have : 0 ≤ r * (max a t - a) := Int.mul_nonneg hr (by omega)
    omega
theorem take_bd {R r h a t h' a' : Int} (hr : 0 ≤ r) (hR : 1000000000 ≤ R) (hh : h ≤ R) (e : takeS R r (h, a) t = some (h', a')) :
    0 ≤ h' ∧ h' + 1000000000 ≤ R ∧ a ≤ a' ∧ t ≤ a' ∧ h' + 1000000000 ≤ h + r * (a' - a) := by
  obtain ⟨f1, f2, f3, f4, f5⟩ := fill_bd (a := a) (t := t) hr hh
  unfold takeS at e
  obtain ⟨⟨h1, a1⟩, hs⟩ : ∃ s, s = fillS R r (h, a) t := ⟨_, rfl⟩
  rw [← hs] at e f1 f2 f3 f4 f5
  simp only at e f1 f2 f3 f4 f5
  split at e
  · rename_i hm
    split at e
    · cases e
    · rename_i hr0
      obtain ⟨g1, g2, g3, g4, g5⟩ := fill_bd (a := a1) (t := a1 + (1000000000 - h1 + r - 1) / r) hr f2
      have key : 1000000000 ≤ (fillS R r (h1, a1) (a1 + (1000000000 - h1 + r - 1) / r)).1 := by
        unfold fillS
        simp only
        obtain ⟨e1, e2⟩ := ediv_lo (a := 1000000000 - h1 + r - 1) (r := r) (by omega)
        have hp : 0 < (1000000000 - h1 + r - 1) / r := by
          refine Classical.byContradiction fun hc => ?_
          have : r * ((1000000000 - h1 + r - 1) / r) ≤ 0 := Int.mul_nonpos_of_nonneg_of_nonpos (by omega) (by omega)
          omega
        rw [if_pos ⟨by omega, by omega⟩]
        split
        · exact hR
        · rw [show a1 + (1000000000 - h1 + r - 1) / r - a1 = (1000000000 - h1 + r - 1) / r by omega]
          omega
      obtain ⟨⟨h2, a2⟩, hs2⟩ : ∃ s, s = fillS R r (h1, a1) (a1 + (1000000000 - h1 + r - 1) / r) := ⟨_, rfl⟩
      rw [← hs2] at e g1 g2 g3 g4 g5 key
      simp only [Option.some.injEq, Prod.mk.injEq] at e g1 g2 g3 g4 g5 key
      obtain ⟨rfl, rfl⟩ := e
      have : r * (a2 - a) = r * (a2 - a1) + r * (a1 - a) := by rw [← Int.mul_add]; congr 1; omega
      omega
  · simp only [Option.some.injEq, Prod.mk.injEq] at e
    obtain ⟨rfl, rfl⟩ := e
    omega
/-- the vessel behind the first ones -/
def stS (R r : Int) (ts : List Int) : Nat → Option (Int × Int)
  | 0 => some (R, 0)
  | k + 1 => match stS R r ts k with
    | none => none
    | some s => match ts[k]? with
      | none => none
      | some t => takeS R r s t
theorem stS_succ {R r : Int} {ts : List Int} {k : Nat} {s : Int × Int} {t : Int} (h : stS R r ts k = some s) (ht : ts[k]? = some t) : stS R r ts (k + 1) = takeS R r s t := by
  rw [stS, h, ht]
theorem stS_none {R r : Int} {ts : List Int} {k : Nat} (h : stS R r ts k = none) : ∀ m, k ≤ m → stS R r ts m = none
  | 0, hm => by obtain rfl : k = 0 := by omega
                exact h
  | m + 1, hm => by
    rcases Nat.eq_or_lt_of_le hm with e | e
    · rw [← e]; exact h
    · rw [stS, stS_none h m (by omega)]
theorem stS_some {R r : Int} {ts : List Int} {n : Nat} {s : Int × Int} (h : stS R r ts n = some s) {k : Nat} (hk : k ≤ n) : ∃ s', stS R r ts k = some s' := by
  cases e : stS R r ts k with
  | none => rw [stS_none e n hk] at h; cases h
  | some s' => exact ⟨s', rfl⟩
/-- the times at which the first ones begin -/
def outsS (R r : Int) (ts : List Int) (k : Nat) : List Int := (List.range k).map fun j => ((stS R r ts (j + 1)).getD (0, 0)).2
theorem outsS_snoc (R r : Int) (ts : List Int) (k : Nat) : outsS R r ts (k + 1) = outsS R r ts k ++ [((stS R r ts (k + 1)).getD (0, 0)).2] := by simp [outsS, List.range_succ]
theorem outsS_length (R r : Int) (ts : List Int) (k : Nat) : (outsS R r ts k).length = k := by simp [outsS]
theorem outsS_get {R r : Int} {ts : List Int} {n j : Nat} (hj : j < n) {s : Int × Int} (h : stS R r ts (j + 1) = some s) : (outsS R r ts n)[j]? = some s.2 := by
  unfold outsS; rw [List.getElem?_map, List.getElem?_range hj]; simp [h]
def admOk (rate burst : Int) : Prop := 0 ≤ rate ∧ rate ≤ 1000000000 ∧ 1 ≤ burst ∧ burst ≤ 1000000
instance (a b : Int) : Decidable (admOk a b) := by unfold admOk; infer_instance
/-- what Admit returns -/
def admC (ts : List Int) (rate burst : Int) : Int :=
  if codeT ts ≠ 0 then codeT ts else if ¬ admOk rate burst then 9 else if stS (burst * 1000000000) rate ts ts.length = none then 4 else if (outsS (burst * 1000000000) rate ts ts.length).any (fun t => decide (1000000000000 < t)) = true then 3 else 0
def admL (ts : List Int) (rate burst : Int) : List Int := if admC ts rate burst = 0 then outsS (burst * 1000000000) rate ts ts.length else []

theorem st_bd {R r : Int} {ts : List Int} (hr : 0 ≤ r) (hR : 1000000000 ≤ R) : ∀ k h a, stS R r ts k = some (h, a) → 0 ≤ h ∧ h ≤ R ∧ 0 ≤ a ∧ (0 < k → h + 1000000000 ≤ R)
  | 0, h, a, e => by simp [stS] at e; omega
  | k + 1, h, a, e => by
    rw [stS] at e
    split at e
    · cases e
    · rename_i s hs
      split at e
      · cases e
      · rename_i t ht
        obtain ⟨h0, a0⟩ := s
        have := st_bd hr hR k h0 a0 hs
        have := take_bd hr hR (by omega) e
        omega
theorem st_step {R r : Int} {ts : List Int} (hr : 0 ≤ r) (hR : 1000000000 ≤ R) {k : Nat} {h a h' a' t : Int} (e : stS R r ts k = some (h, a)) (e' : stS R r ts (k + 1) = some (h', a')) (ht : ts[k]? = some t) : a ≤ a' ∧ t ≤ a' ∧ h' + 1000000000 ≤ h + r * (a' - a) := by
  rw [stS_succ e ht] at e'
  have h1 := st_bd hr hR k h a e
  have := take_bd hr hR (by omega) e'
  omega
/-- the law: behind a token, further m tokens -/
theorem st_law {R r : Int} {ts : List Int} (hr : 0 ≤ r) (hR : 1000000000 ≤ R) {i : Nat} {h a : Int} (e : stS R r ts i = some (h, a)) : ∀ m h' a', stS R r ts (i + m) = some (h', a') → a ≤ a' ∧ h' + m * 1000000000 ≤ h + r * (a' - a)
  | 0, h', a', e' => by
    rw [Nat.add_zero, e] at e'
    simp only [Option.some.injEq, Prod.mk.injEq] at e'
    obtain ⟨rfl, rfl⟩ := e'
    simp
  | m + 1, h', a', e' => by
    obtain ⟨⟨h1, a1⟩, hs⟩ := stS_some e' (k := i + m) (by omega)
    have ih := st_law hr hR e m h1 a1 hs
    have ht : ∃ t, ts[i + m]? = some t := by
      cases hx : ts[i + m]? with
      | some t => exact ⟨t, rfl⟩
      | none => rw [show i + (m + 1) = i + m + 1 by omega, stS, hs, hx] at e'; cases e'
    obtain ⟨t, ht⟩ := ht
    have := st_step hr hR hs e' ht
    have e3 : r * (a' - a) = r * (a' - a1) + r * (a1 - a) := by rw [← Int.mul_add]; congr 1; omega
    omega
theorem adm_law {R r : Int} {ts : List Int} (hr : 0 ≤ r) (hR : 1000000000 ≤ R) {i k : Nat} {s1 s2 : Int × Int} (h1 : stS R r ts (i + 1) = some s1) (h2 : stS R r ts (k + 1) = some s2) (hik : i ≤ k) : s1.2 ≤ s2.2 ∧ ((k : Int) - i + 1) * 1000000000 ≤ R + r * (s2.2 - s1.2) := by
  obtain ⟨a, b⟩ := s1
  obtain ⟨c, d⟩ := s2
  have e := st_law hr hR h1 (k - i) c d (by rw [show i + 1 + (k - i) = k + 1 by omega]; exact h2)
  have b1 := st_bd hr hR _ a b h1
  have b2 := st_bd hr hR _ c d h2
  simp only at *
  omega
end Go.Proofs.YtepfmoaihhonlaaGreatDoor
