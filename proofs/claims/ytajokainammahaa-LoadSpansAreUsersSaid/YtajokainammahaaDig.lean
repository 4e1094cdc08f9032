/- Numbers as lists of digits, the lowest first: plain. -/
namespace Go.Proofs.Ytajokainammahaa

/-- the number with these digits in base B -/
def val (B : Nat) : List Nat → Nat
  | [] => 0
  | d :: r => d + B * val B r
/-- digits below B, no zero at the end -/
def Norm (B : Nat) (l : List Nat) : Prop := (∀ d ∈ l, d < B) ∧ l.getLast? ≠ some 0
theorem val_append (B : Nat) : ∀ a b : List Nat, val B (a ++ b) = val B a + B ^ a.length * val B b
  | [], b => by simp [val]
  | d :: a, b => by
    have ih := val_append B a b
    simp only [List.cons_append, val, ih, List.length_cons, Nat.pow_succ]
    rw [Nat.mul_add, Nat.add_assoc, ← Nat.mul_assoc, Nat.mul_comm B (B ^ a.length)]
theorem val_snoc (B : Nat) (a : List Nat) (d : Nat) : val B (a ++ [d]) = val B a + B ^ a.length * d := by
  rw [val_append]; simp [val]
theorem val_lt {B : Nat} : ∀ {l : List Nat}, (∀ d ∈ l, d < B) → val B l < B ^ l.length
  | [], _ => by simp [val]
  | d :: r, h => by
    have ih := val_lt (fun x hx => h x (by simp [hx]) : ∀ x ∈ r, x < B)
    have hd := h d (by simp)
    simp only [val, List.length_cons, Nat.pow_succ]
    have : B * val B r + B ≤ B ^ r.length * B := by
      have := Nat.mul_le_mul_left B (show val B r + 1 ≤ B ^ r.length by omega)
      rw [Nat.mul_add, Nat.mul_one, Nat.mul_comm B (B ^ r.length)] at this
      exact this
    omega
theorem val_ge {B : Nat} (_hB : 1 < B) {l : List Nat} (h : Norm B l) (hl : l ≠ []) : B ^ (l.length - 1) ≤ val B l := by
  rcases List.eq_nil_or_concat l with rfl | ⟨a, d, rfl⟩
  · exact absurd rfl hl
  · rw [List.concat_eq_append] at *
    have hd : d ≠ 0 := by
      intro e
      apply h.2
      simp [e]
    rw [val_snoc]
    simp only [List.length_append, List.length_singleton, Nat.add_sub_cancel]
    have : B ^ a.length * 1 ≤ B ^ a.length * d := Nat.mul_le_mul_left _ (by omega)
    omega
theorem norm_nil (B : Nat) : Norm B [] := ⟨fun _ h => by simp at h, by simp⟩
theorem val_zero {B : Nat} (hB : 1 < B) {l : List Nat} (h : Norm B l) : val B l = 0 ↔ l = [] := by
  constructor
  · intro h0
    refine Classical.byContradiction fun hl => ?_
    have := val_ge hB h hl
    have : 0 < B ^ (l.length - 1) := Nat.pow_pos (by omega)
    omega
  · rintro rfl; rfl
/-- a longer number is a greater one -/
theorem val_len_lt {B : Nat} (hB : 1 < B) {a b : List Nat} (ha : Norm B a) (hb : Norm B b) (h : a.length < b.length) : val B a < val B b := by
  have h1 := val_lt ha.1
  have hbn : b ≠ [] := by intro e; rw [e] at h; simp at h
  have h2 := val_ge hB hb hbn
  have h3 : B ^ a.length ≤ B ^ (b.length - 1) := Nat.pow_le_pow_right (by omega) (by omega)
  omega
/-- the first place from above at which two numbers of one length part -/
theorem val_part {B : Nat} (a b : List Nat) (x y : Nat) (s : List Nat) (hl : a.length = b.length) (ha : ∀ d ∈ a, d < B) (hxy : x < y) : val B (a ++ x :: s) < val B (b ++ y :: s) := by
  rw [val_append, val_append]
  simp only [val]
  have h1 := val_lt ha
  rw [← hl]
  have h2 : B ^ a.length * (x + B * val B s) + B ^ a.length ≤ B ^ a.length * (y + B * val B s) := by
    have := Nat.mul_le_mul_left (B ^ a.length) (show x + B * val B s + 1 ≤ y + B * val B s by omega)
    rw [Nat.mul_add, Nat.mul_one] at this
    exact this
  omega
theorem val_inj {B : Nat} (hB : 1 < B) : ∀ {a b : List Nat}, Norm B a → Norm B b → val B a = val B b → a = b := by
  intro a
  induction a with
  | nil => intro b _ hb h; exact ((val_zero hB hb).1 h.symm).symm
  | cons d a ih =>
    intro b ha hb h
    cases b with
    | nil => exact (val_zero hB ha).1 h
    | cons e b =>
      have hd := ha.1 d (by simp)
      have he := hb.1 e (by simp)
      simp only [val] at h
      have e1 : d = e := by
        have := congrArg (· % B) h
        simp only [Nat.add_mul_mod_self_left, Nat.mod_eq_of_lt hd, Nat.mod_eq_of_lt he] at this
        exact this
      subst e1
      have e2 : val B a = val B b := Nat.eq_of_mul_eq_mul_left (show 0 < B by omega) (by omega)
      have nt : ∀ {x : Nat} {l : List Nat}, Norm B (x :: l) → Norm B l := by
        intro x l hn
        refine ⟨fun z hz => hn.1 z (by simp [hz]), ?_⟩
        cases l with
        | nil => simp
        | cons y l =>
          have := hn.2
          rwa [List.getLast?_cons_cons] at this
      rw [ih (nt ha) (nt hb) e2]
/-- without zeros at the end -/
def trim : List Nat → List Nat
  | [] => []
  | d :: r => if d = 0 ∧ trim r = [] then [] else d :: trim r
theorem trim_val (B : Nat) : ∀ l, val B (trim l) = val B l
  | [] => rfl
  | d :: r => by
    have ih := trim_val B r
    unfold trim
    split
    · rename_i h
      rw [h.2] at ih
      simp only [val] at *
      rw [← ih, h.1]; simp
    · simp only [val, ih]
theorem trim_norm {B : Nat} : ∀ {l : List Nat}, (∀ d ∈ l, d < B) → Norm B (trim l)
  | [], _ => norm_nil B
  | d :: r, h => by
    have ih := trim_norm (l := r) (fun x hx => h x (by simp [hx]))
    unfold trim
    split
    · exact norm_nil B
    · rename_i hn
      refine ⟨fun x hx => ?_, ?_⟩
      · rcases List.mem_cons.1 hx with e | e
        · rw [e]; exact h d (by simp)
        · exact ih.1 x e
      · cases ht : trim r with
        | nil =>
          simp only [List.getLast?_singleton, ne_eq, Option.some.injEq]
          intro e
          exact hn ⟨e, ht⟩
        | cons y s =>
          rw [List.getLast?_cons_cons, ← ht]
          exact ih.2
/-- the loop that cuts zeros at the end: the first n digits, if those behind them are zeros -/
theorem trim_take : ∀ (l : List Nat) (n : Nat), n ≤ l.length → (∀ i, n ≤ i → i < l.length → l[i]? = some 0) → (n = 0 ∨ l[n - 1]? ≠ some 0) → trim l = l.take n
  | [], n, hn, _, _ => by simp [trim]
  | d :: r, 0, _, hz, _ => by
    have h0 := hz 0 (by omega) (by simp)
    simp at h0
    have := trim_take r 0 (by omega) (fun i _ hi => by have := hz (i + 1) (by omega) (by simp; omega); simpa using this) (.inl rfl)
    unfold trim
    rw [if_pos ⟨h0, by simpa using this⟩]; rfl
  | d :: r, n + 1, hn, hz, hl => by
    simp only [List.length_cons] at hn
    have ih := trim_take r n (by omega) (fun i h1 h2 => by have := hz (i + 1) (by omega) (by simp; omega); simpa using this) (by
      rcases Nat.eq_zero_or_pos n with h | h
      · exact .inl h
      · right
        rcases hl with h' | h'
        · omega
        · have e : n + 1 - 1 = (n - 1) + 1 := by omega
          rw [e, List.getElem?_cons_succ] at h'
          exact h')
    unfold trim
    rw [if_neg, ih]
    · rfl
    · rintro ⟨h1, h2⟩
      rw [ih] at h2
      rcases hl with h' | h'
      · omega
      · cases n with
        | zero => apply h'; simp [h1]
        | succ n =>
          have : r.take (n + 1) = [] := h2
          cases r with
          | nil => simp at hn
          | cons y s => simp at this
theorem trim_length (l : List Nat) : (trim l).length ≤ l.length := by
  induction l with
  | nil => simp [trim]
  | cons d r ih => unfold trim; split <;> simp; omega
end Go.Proofs.Ytajokainammahaa
