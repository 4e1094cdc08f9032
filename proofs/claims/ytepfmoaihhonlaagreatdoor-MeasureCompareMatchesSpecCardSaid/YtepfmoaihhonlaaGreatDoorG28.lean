import Derived.Test.YtepfmoaihhonlaaGreatDoorG8
import Derived.Test.YtepfmoaihhonlaaGreatDoorRows
import Derived.Test.YtepfmoaihhonlaaGreatDoorProg
import Derived.Handy
import Derived.WalkSpells
import Derived.WalkLawsBesides
import Derived.Deep.QuietTactic
import Derived.BigQuiet
/- Lines of stages: areas and arrivals: plain. -/
namespace Go.Proofs.YtepfmoaihhonlaaGreatDoor

/-- a stage: how long, the rates at its beginning and its end -/
structure Stg where
  F : Nat
  a : Nat
  b : Nat
deriving DecidableEq
/-- the parts of a stage: 2 * 10^9 of them are one request -/
def Stg.parts (s : Stg) : Nat := (s.a + s.b) * s.F
/-- the area up to a place, times the denominator -/
def Stg.num (ah : Nat) (s : Stg) (x : Nat) : Nat :=
  if s.a ≤ s.b then ah * s.F + 2 * s.F * s.a * x + (s.b - s.a) * x * x else ah * s.F + 2 * s.F * s.a * x - (s.a - s.b) * x * x
def Stg.den (s : Stg) : Nat := 2 * s.F * 1000000000
/-- the stage at a time: what is ahead, the stage, how far -/
def loc (ah : Nat) : List Stg → Nat → Nat × Stg × Nat
  | [], _ => (ah, ⟨1, 0, 0⟩, 0)
  | [s], t => (ah, s, min t s.F)
  | s :: s' :: r, t => if t < s.F then (ah, s, t) else loc (ah + s.parts) (s' :: r) (t - s.F)
/-- the area at a place is at least n / d -/
def atLeast (n d : Nat) (p : Nat × Stg × Nat) : Prop := n * p.2.1.den ≤ p.2.1.num p.1 p.2.2 * d
instance (n d : Nat) (p : Nat × Stg × Nat) : Decidable (atLeast n d p) := inferInstanceAs (Decidable (_ ≤ _))
/-- the least number from lo on, below hi, for which p holds, else hi -/
def bs (p : Nat → Bool) : Nat → Nat → Nat → Nat
  | 0, lo, _ => lo
  | f + 1, lo, hi => if lo < hi then (if p ((lo + hi) / 2) then bs p f lo ((lo + hi) / 2) else bs p f ((lo + hi) / 2 + 1) hi) else lo
/-- the first time with an area -/
def fst (n d : Nat) (ah bg : Nat) : List Stg → Option Nat
  | [] => none
  | s :: r => if (ah + s.parts) * d < n * 2000000000 then fst n d (ah + s.parts) (bg + s.F) r else some (bg + bs (fun x => decide (atLeast n d (ah, s, x))) 64 0 s.F)

theorem bs_spec (p : Nat → Bool) (hp : ∀ x y, x ≤ y → p x = true → p y = true) : ∀ (f lo hi : Nat), hi - lo < 2 ^ f → lo ≤ hi → (∀ x, x < lo → p x = false) → (p hi = true) → p (bs p f lo hi) = true ∧ (∀ x, x < bs p f lo hi → p x = false) ∧ bs p f lo hi ≤ hi
  | 0, lo, hi, h, hle, hlo, hhi => by
    have : lo = hi := by simp at h; omega
    subst this
    exact ⟨hhi, hlo, Nat.le_refl _⟩
  | f + 1, lo, hi, h, hle, hlo, hhi => by
    unfold bs
    rw [Nat.pow_succ] at h
    by_cases hlt : lo < hi
    · rw [if_pos hlt]
      cases hm : p ((lo + hi) / 2) with
      | true =>
        rw [if_pos rfl]
        have := bs_spec p hp f lo ((lo + hi) / 2) (by omega) (by omega) hlo hm
        exact ⟨this.1, this.2.1, by omega⟩
      | false =>
        rw [if_neg (by simp)]
        refine bs_spec p hp f ((lo + hi) / 2 + 1) hi (by omega) (by omega) (fun x hx => ?_) hhi
        cases hx' : p x with
        | false => rfl
        | true => rw [hp x ((lo + hi) / 2) (by omega) hx'] at hm; cases hm
    · rw [if_neg hlt]
      have : lo = hi := by omega
      subst this
      exact ⟨hhi, hlo, Nat.le_refl _⟩

theorem sq_le {a x F : Nat} (hx : x ≤ F) : a * x * x ≤ F * a * x := by
  rw [Nat.mul_comm F a, Nat.mul_assoc, Nat.mul_assoc]
  exact Nat.mul_le_mul_left _ (Nat.mul_le_mul_right _ hx)
/-- the parts that are taken away are not too many -/
theorem num_fine {ah : Nat} {s : Stg} {x : Nat} (hx : x ≤ s.F) : (s.a - s.b) * x * x ≤ ah * s.F + 2 * s.F * s.a * x := by
  have h1 : (s.a - s.b) * x * x ≤ s.a * x * x := by
    rw [Nat.mul_assoc, Nat.mul_assoc]; exact Nat.mul_le_mul_right _ (by omega)
  have h2 := sq_le (a := s.a) hx
  have h3 : 2 * s.F * s.a * x = s.F * s.a * x + s.F * s.a * x := by
    rw [Nat.mul_assoc 2, Nat.mul_assoc 2]; omega
  omega
theorem num_ge (ah : Nat) (s : Stg) {x : Nat} (hx : x ≤ s.F) : ah * s.F ≤ s.num ah x := by
  unfold Stg.num
  split
  · omega
  · have h1 : (s.a - s.b) * x * x ≤ 0 * s.F + 2 * s.F * s.a * x := num_fine hx
    omega
theorem num_step (ah : Nat) (s : Stg) {x : Nat} (hx : x + 1 ≤ s.F) : s.num ah x ≤ s.num ah (x + 1) := by
  have hf := num_fine (ah := ah) (s := s) (x := x + 1) hx
  have hf0 := num_fine (ah := ah) (s := s) (x := x) (by omega)
  unfold Stg.num
  split
  · have h1 : 2 * s.F * s.a * x ≤ 2 * s.F * s.a * (x + 1) := Nat.mul_le_mul_left _ (by omega)
    have h2 : (s.b - s.a) * x * x ≤ (s.b - s.a) * (x + 1) * (x + 1) := Nat.mul_le_mul (Nat.mul_le_mul_left _ (by omega)) (by omega)
    omega
  · have h1 : 2 * s.F * s.a * (x + 1) = 2 * s.F * s.a * x + 2 * s.F * s.a := by rw [Nat.mul_add, Nat.mul_one]
    have h2 : (s.a - s.b) * (x + 1) * (x + 1) = (s.a - s.b) * x * x + (s.a - s.b) * (2 * x + 1) := by
      simp only [Nat.mul_add, Nat.add_mul, Nat.mul_one]
      have : (s.a - s.b) * (2 * x) = (s.a - s.b) * x + (s.a - s.b) * x := by rw [Nat.mul_left_comm]; omega
      omega
    have h3 : (s.a - s.b) * (2 * x + 1) ≤ 2 * s.F * s.a := by
      have := Nat.mul_le_mul (show s.a - s.b ≤ s.a by omega) (show 2 * x + 1 ≤ 2 * s.F by omega)
      rw [Nat.mul_comm s.a] at this
      exact this
    omega
theorem num_mono (ah : Nat) (s : Stg) : ∀ {x y : Nat}, x ≤ y → y ≤ s.F → s.num ah x ≤ s.num ah y := by
  intro x y h
  induction h with
  | refl => intro _; exact Nat.le_refl _
  | step h ih => intro hy; exact Nat.le_trans (ih (by omega)) (num_step ah s hy)
theorem num_end (ah : Nat) (s : Stg) : s.num ah s.F = (ah + s.parts) * s.F := by
  unfold Stg.num Stg.parts
  split
  · rename_i h
    obtain ⟨c, hc⟩ : ∃ c, s.b = s.a + c := ⟨s.b - s.a, by omega⟩
    rw [hc, Nat.add_sub_cancel_left]
    simp only [Nat.add_mul, Nat.mul_assoc, Nat.mul_comm s.F, Nat.two_mul]
    omega
  · rename_i h
    obtain ⟨c, hc⟩ : ∃ c, s.a = s.b + c := ⟨s.a - s.b, by omega⟩
    rw [hc, Nat.add_sub_cancel_left]
    have : ah * s.F + 2 * s.F * (s.b + c) * s.F = (ah + (s.b + c + s.b) * s.F) * s.F + c * s.F * s.F := by
      simp only [Nat.add_mul, Nat.mul_add, Nat.mul_assoc, Nat.mul_comm s.F, Nat.two_mul]
      omega
    omega
/-- at the end of a stage -/
theorem atLeast_end {n d ah : Nat} {s : Stg} (hF : 0 < s.F) : atLeast n d (ah, s, s.F) ↔ n * 2000000000 ≤ (ah + s.parts) * d := by
  unfold atLeast
  simp only [num_end, Stg.den]
  have e1 : n * (2 * s.F * 1000000000) = n * 2000000000 * s.F := by
    rw [Nat.mul_right_comm 2, Nat.mul_assoc n]
  rw [e1, show (ah + s.parts) * s.F * d = (ah + s.parts) * d * s.F from Nat.mul_right_comm _ _ _]
  exact ⟨fun h => Nat.le_of_mul_le_mul_right h hF, fun h => Nat.mul_le_mul_right _ h⟩
/-- what is ahead is enough -/
theorem atLeast_ahead {n d ah : Nat} {s : Stg} {x : Nat} (hx : x ≤ s.F) (h : n * 2000000000 ≤ ah * d) : atLeast n d (ah, s, x) := by
  unfold atLeast
  simp only [Stg.den]
  have e1 : n * (2 * s.F * 1000000000) = n * 2000000000 * s.F := by
    rw [Nat.mul_right_comm 2, Nat.mul_assoc n]
  rw [e1]
  have h1 := Nat.mul_le_mul_right s.F h
  have h2 := Nat.mul_le_mul_right d (num_ge ah s hx)
  rw [Nat.mul_right_comm] at h2
  omega
theorem atLeast_mono {n d ah : Nat} {s : Stg} {x y : Nat} (hxy : x ≤ y) (hy : y ≤ s.F) (h : atLeast n d (ah, s, x)) : atLeast n d (ah, s, y) := by
  unfold atLeast at *
  exact Nat.le_trans h (Nat.mul_le_mul_right _ (num_mono ah s hxy hy))
theorem loc_ahead {n d : Nat} : ∀ (l : List Stg) (ah t : Nat), l ≠ [] → n * 2000000000 ≤ ah * d → atLeast n d (loc ah l t)
  | [], _, _, h, _ => absurd rfl h
  | [s], ah, t, _, h => atLeast_ahead (Nat.min_le_right _ _) h
  | s :: s' :: r, ah, t, _, h => by
    unfold loc
    split
    · exact atLeast_ahead (by omega) h
    · refine loc_ahead (s' :: r) _ _ (by simp) (Nat.le_trans h (Nat.mul_le_mul_right _ (by omega)))
/-- the place of the first time in its stage -/
theorem bs_place {n d ah : Nat} {s : Stg} (hF : 0 < s.F) (hF2 : s.F < 2 ^ 64) (h : ¬ (ah + s.parts) * d < n * 2000000000) :
    ∃ X, bs (fun x => decide (atLeast n d (ah, s, x))) 64 0 s.F = X ∧ X ≤ s.F ∧ ∀ x, x ≤ s.F → (X ≤ x ↔ atLeast n d (ah, s, x)) := by
  have key : ∀ (f lo hi : Nat), hi ≤ s.F → hi - lo < 2 ^ f → lo ≤ hi → (∀ x, x < lo → ¬ atLeast n d (ah, s, x)) → atLeast n d (ah, s, hi) →
      atLeast n d (ah, s, bs (fun x => decide (atLeast n d (ah, s, x))) f lo hi) ∧ (∀ x, x < bs (fun x => decide (atLeast n d (ah, s, x))) f lo hi → ¬ atLeast n d (ah, s, x)) ∧ bs (fun x => decide (atLeast n d (ah, s, x))) f lo hi ≤ hi := by
    intro f
    induction f with
    | zero =>
      intro lo hi _ h1 h2 h3 h4
      have : lo = hi := by simp at h1; omega
      subst this
      exact ⟨h4, h3, Nat.le_refl _⟩
    | succ f ih =>
      intro lo hi h0 h1 h2 h3 h4
      unfold bs
      rw [Nat.pow_succ] at h1
      by_cases hlt : lo < hi
      · rw [if_pos hlt]
        by_cases hm : atLeast n d (ah, s, (lo + hi) / 2)
        · rw [if_pos (by simpa using hm)]
          have := ih lo ((lo + hi) / 2) (by omega) (by omega) (by omega) h3 hm
          exact ⟨this.1, this.2.1, by omega⟩
        · rw [if_neg (by simpa using hm)]
          exact ih ((lo + hi) / 2 + 1) hi h0 (by omega) (by omega) (fun x hx hx' => hm (atLeast_mono (by omega) (by omega) hx')) h4
      · rw [if_neg hlt]
        have : lo = hi := by omega
        subst this
        exact ⟨h4, h3, Nat.le_refl _⟩
  have hk := key 64 0 s.F (Nat.le_refl _) (by omega) (Nat.zero_le _) (fun x hx => by omega) ((atLeast_end hF).2 (by omega))
  refine ⟨_, rfl, hk.2.2, fun x hx => ⟨fun h' => atLeast_mono h' hx hk.1, fun h' => ?_⟩⟩
  rcases Nat.lt_or_ge x (bs (fun x => decide (atLeast n d (ah, s, x))) 64 0 s.F) with h2 | h2
  · exact absurd h' (hk.2.1 x h2)
  · exact h2
/-- the first time with an area: there it is reached, and not before -/
theorem fst_some {n d : Nat} : ∀ (l : List Stg) (ah bg T : Nat), (∀ s ∈ l, 0 < s.F ∧ s.F < 2 ^ 64) → fst n d ah bg l = some T → bg ≤ T ∧ ∀ t, (T ≤ bg + t ↔ atLeast n d (loc ah l t))
  | [], _, _, _, _, h => by cases h
  | s :: r, ah, bg, T, hl, h => by
    unfold fst at h
    have hs := hl s (by simp)
    by_cases hc : (ah + s.parts) * d < n * 2000000000
    · rw [if_pos hc] at h
      cases r with
      | nil => cases h
      | cons s' r =>
        have ih := fst_some (s' :: r) (ah + s.parts) (bg + s.F) T (fun x hx => hl x (by simp at hx ⊢; right; exact hx)) h
        refine ⟨by omega, fun t => ?_⟩
        unfold loc
        by_cases ht : t < s.F
        · rw [if_pos ht]
          refine ⟨fun h' => by omega, fun h' => ?_⟩
          have := (atLeast_end hs.1).1 (atLeast_mono (Nat.le_of_lt ht) (Nat.le_refl _) h')
          omega
        · rw [if_neg ht, ← ih.2 (t - s.F)]
          omega
    · rw [if_neg hc] at h
      obtain ⟨X, hX, hXF, hXs⟩ := bs_place hs.1 hs.2 hc
      rw [hX] at h
      have h := Option.some.inj h
      refine ⟨by omega, fun t => ?_⟩
      cases r with
      | nil =>
        unfold loc
        rw [← hXs _ (Nat.min_le_right _ _)]
        omega
      | cons s' r =>
        unfold loc
        by_cases ht : t < s.F
        · rw [if_pos ht, ← hXs t (by omega)]; omega
        · rw [if_neg ht]
          refine ⟨fun _ => loc_ahead _ _ _ (by simp) (by omega), fun _ => by omega⟩
theorem fst_none {n d : Nat} : ∀ (l : List Stg) (ah bg : Nat), (∀ s ∈ l, 0 < s.F) → l ≠ [] → fst n d ah bg l = none → ∀ t, ¬ atLeast n d (loc ah l t)
  | [], _, _, _, h, _ => absurd rfl h
  | s :: r, ah, bg, hl, _, h => by
    unfold fst at h
    by_cases hc : (ah + s.parts) * d < n * 2000000000
    · rw [if_pos hc] at h
      intro t h'
      cases r with
      | nil =>
        unfold loc at h'
        have := (atLeast_end (hl s (by simp))).1 (atLeast_mono (Nat.min_le_right _ _) (Nat.le_refl _) h')
        omega
      | cons s' r =>
        unfold loc at h'
        by_cases ht : t < s.F
        · rw [if_pos ht] at h'
          have := (atLeast_end (hl s (by simp))).1 (atLeast_mono (Nat.le_of_lt ht) (Nat.le_refl _) h')
          omega
        · rw [if_neg ht] at h'
          exact fst_none (s' :: r) _ _ (fun x hx => hl x (by simp at hx ⊢; right; exact hx)) (by simp) h _ h'
    · rw [if_neg hc] at h; cases h
/-- how many arrivals are at a time or earlier -/
def upto (p : Nat × Stg × Nat) : Nat := (p.2.1.num p.1 p.2.2 * 2 + p.2.1.den) / (p.2.1.den * 2)
theorem lt_upto {k : Nat} {p : Nat × Stg × Nat} (hF : 0 < p.2.1.F) : k < upto p ↔ atLeast (2 * k + 1) 2 p := by
  unfold upto atLeast
  have hd : 0 < p.2.1.den * 2 := by unfold Stg.den; have := Nat.mul_pos (show 0 < 2 by omega) hF; omega
  rw [← Nat.succ_le_iff, Nat.le_div_iff_mul_le hd]
  have e1 : Nat.succ k * (p.2.1.den * 2) = 2 * k * p.2.1.den + 2 * p.2.1.den := by
    rw [Nat.succ_mul, Nat.mul_comm p.2.1.den 2, ← Nat.mul_assoc, Nat.mul_comm k 2]
  have e2 : (2 * k + 1) * p.2.1.den = 2 * k * p.2.1.den + p.2.1.den := by rw [Nat.add_mul, Nat.one_mul]
  rw [e1, e2]; omega
end Go.Proofs.YtepfmoaihhonlaaGreatDoor

/- Package load: stages in memory; Check, length. -/
namespace Go.Proofs.YtepfmoaihhonlaaGreatDoor
open Go Go.RowKit Go.Proofs

/-- stages as cells -/
def cells3 : List (Int × Int × Int) → List Value
  | [] => []
  | s :: r => .int .i64 s.1 :: .int .i64 s.2.1 :: .int .i64 s.2.2 :: cells3 r
theorem cells3_length : ∀ l : List (Int × Int × Int), (cells3 l).length = l.length * 3
  | [] => rfl
  | s :: r => by simp [cells3, cells3_length r]; omega
theorem cells3_get {l : List (Int × Int × Int)} {i : Nat} {s : Int × Int × Int} (h : l[i]? = some s) : (cells3 l)[i * 3]? = some (.int .i64 s.1) ∧ (cells3 l)[i * 3 + 1]? = some (.int .i64 s.2.1) ∧ (cells3 l)[i * 3 + 2]? = some (.int .i64 s.2.2) := by
  induction l generalizing i with
  | nil => simp at h
  | cons c l ih =>
    rcases i with _ | i
    · simp at h; subst h; simp [cells3]
    · have := ih (i := i) (by simpa using h)
      have e1 : (i + 1) * 3 = i * 3 + 1 + 1 + 1 := by omega
      rw [e1]
      simpa [cells3] using this
theorem Rd.at3 {w : World} {L B n i : Nat} {A : Option Addr} {l : List (Int × Int × Int)} (h : Rd w L B 3 A n (cells3 l)) (hi : i < n) :
    ∃ b o F x y, A = some ⟨b, o, none⟩ ∧ L ≤ b ∧ b < B ∧ l[i]? = some (F, x, y) ∧ w.cell? ⟨b, o + i * 3, none⟩ = some (.int .i64 F) ∧ w.cell? ⟨b, o + i * 3 + 1, none⟩ = some (.int .i64 x) ∧ w.cell? ⟨b, o + i * 3 + 2, none⟩ = some (.int .i64 y) := by
  obtain ⟨b, o, e, hl, hb, hc⟩ := h.2 (by omega)
  have hlen : l.length = n := by have := h.1; rw [cells3_length] at this; omega
  obtain ⟨⟨F, x, y⟩, hx⟩ : ∃ p, l[i]? = some p := ⟨l[i]'(by omega), List.getElem?_eq_getElem (by omega)⟩
  have hg := cells3_get hx
  exact ⟨b, o, F, x, y, e, hl, hb, hx, hc _ _ hg.1, by have := hc _ _ hg.2.1; rwa [← Nat.add_assoc] at this, by have := hc _ _ hg.2.2; rwa [← Nat.add_assoc] at this⟩
/-- a stage within the limits -/
def OkS (s : Int × Int × Int) : Prop := 1 ≤ s.1 ∧ s.1 ≤ 100000000000 ∧ 0 ≤ s.2.1 ∧ s.2.1 ≤ 1000000000 ∧ 0 ≤ s.2.2 ∧ s.2.2 ≤ 1000000000
instance (s : Int × Int × Int) : Decidable (OkS s) := inferInstanceAs (Decidable (_ ∧ _))
def lenS (l : List (Int × Int × Int)) : Int := (l.map (·.1)).sum
theorem lenS_take {l : List (Int × Int × Int)} {i : Nat} {s : Int × Int × Int} (h : l[i]? = some s) : lenS (l.take (i + 1)) = lenS (l.take i) + s.1 := by
  rw [List.take_add_one, h]; simp [lenS]
theorem lenS_bd {l : List (Int × Int × Int)} (h : ∀ s ∈ l, OkS s) : l.length ≤ lenS l ∧ lenS l ≤ l.length * 100000000000 := by
  induction l with
  | nil => simp [lenS]
  | cons c l ih =>
    have := ih (fun x hx => h x (by simp [hx]))
    have h1 := h c (by simp)
    unfold OkS at h1
    simp only [lenS, List.map_cons, List.sum_cons, List.length_cons] at *
    omega
/-- what Check returns -/
def codeS (l : List (Int × Int × Int)) : Int := if l.length = 0 then 13 else if 50 < l.length then 3 else if ∀ s ∈ l, OkS s then (if 1000000000000 < lenS l then 3 else 0) else 9
/-- a line that Check accepts -/
structure OkL (l : List (Int × Int × Int)) : Prop where
  ne : 0 < l.length
  le : l.length ≤ 50
  ok : ∀ s ∈ l, OkS s
  sum : lenS l ≤ 1000000000000
theorem codeS_ok {l : List (Int × Int × Int)} (h : codeS l = 0) : OkL l := by
  unfold codeS at h
  split at h
  · omega
  · split at h
    · omega
    · split at h
      · rename_i h3
        split at h
        · omega
        · exact ⟨by omega, by omega, h3, by omega⟩
      · omega
theorem OkL.code {l : List (Int × Int × Int)} (h : OkL l) : codeS l = 0 := by
  have h1 := h.ne; have h2 := h.le; have h3 := h.sum
  unfold codeS
  rw [if_neg (by omega), if_neg (by omega), if_pos h.ok, if_neg (by omega)]

set_option maxHeartbeats 1000000 in
theorem loadLength_any (A : Option Addr) (c : Nat) (l : List (Int × Int × Int)) (w : World) (hr : Rd w 0 w.heap.size 3 A l.length (cells3 l)) (hl : l.length ≤ 1000) (hok : ∀ s ∈ l, OkS s) :
    Calls Tryz.prog 55 #[.slice A l.length c] w fun e w' => e = .returned (.int .i64 (lenS l)) ∧ Below w.heap.size w w' := by
  have HR := Lib.hid hr
  have HC := Lib.hid hok
  clear hr hok
  go_enter Tryz.func55, Tryz.ntmps55
  go_wp2
  go_loopw [3, 5, 8] (fun s _ i wr => ∃ k : Nat, k ≤ l.length ∧ i = .int .i64 k ∧ s = .int .i64 (lenS (l.take k)) ∧ Below w.heap.size w wr) (fun _ _ i _ => l.length - (intOf i).toNat)
  case atStart => exact ⟨0, Nat.zero_le _, rfl, by simp [lenS], Below.refl _ w⟩
  case round =>
    obtain ⟨k, hk, rfl, rfl, hbw⟩ := hrel
    have hsz := hbw.size
    by_cases hlt : k < l.length
    · obtain ⟨bk, o, F, x, y, rfl, _, hbk, hx, c0, c1, c2⟩ := (HR.out.below hbw (Nat.le_refl _)).at3 hlt
      have ht := lenS_take hx
      have hb1 := lenS_bd (l := l.take k) (fun c hc => HC.out c (List.mem_of_mem_take hc))
      have hm := HC.out _ (List.mem_of_getElem? hx)
      unfold OkS at hm
      simp only [List.length_take] at hb1 hm
      have HT := Lib.hid ht
      clear ht hx
      go_wp2
      go_roundw
      case rel => exact ⟨k + 1, by omega, by go_num, by rw [HT.out], hbw.alloc (by omega) _⟩
      case measure => simp [intOf]; omega
    · go_wp2
      go_ret
      exact ⟨by rw [List.take_of_length_le (by omega)]; rfl, hbw⟩

set_option maxHeartbeats 2000000 in
set_option maxRecDepth 100000 in
theorem loadCheck_any (A : Option Addr) (c : Nat) (l : List (Int × Int × Int)) (w : World) (hr : Rd w 0 w.heap.size 3 A l.length (cells3 l)) (hl : l.length ≤ 9223372036854775807) :
    Calls Tryz.prog 8 #[.slice A l.length c] w fun e w' => e = .returned (.int .i64 (codeS l)) ∧ Below w.heap.size w w' := by
  have HR := Lib.hid hr
  clear hr
  by_cases h0 : l.length = 0
  · have HE := Lib.hid (show codeS l = 13 by unfold codeS; rw [if_pos h0])
    have t0 : ((l.length : Int) == 0) = true := by rw [h0]; rfl
    have HL0 := Lib.hid h0
    clear h0
    go_enter Tryz.func8, Tryz.ntmps8
    go_wp2
    go_ret
    exact ⟨by rw [HE.out]; rfl, Below.refl _ _⟩
  · have t0 : ((l.length : Int) == 0) = false := by simp; intro h; exact h0 (by rw [h]; rfl)
    by_cases h1 : 50 < l.length
    · have HE := Lib.hid (show codeS l = 3 by unfold codeS; rw [if_neg h0, if_pos h1])
      go_enter Tryz.func8, Tryz.ntmps8
      go_wp2
      go_ret
      exact ⟨by rw [HE.out]; rfl, Below.refl _ _⟩
    · have HE := Lib.hid (show codeS l = if ∀ s ∈ l, OkS s then (if 1000000000000 < lenS l then 3 else 0) else 9 by unfold codeS; rw [if_neg h0, if_neg h1])
      go_enter Tryz.func8, Tryz.ntmps8
      go_wp2
      go_loopw [4, 15] (fun _ i wr => ∃ k : Nat, k ≤ l.length ∧ i = .int .i64 k ∧ (∀ s ∈ l.take k, OkS s) ∧ Below w.heap.size w wr) (fun _ i _ => l.length - (intOf i).toNat)
      case atStart => exact ⟨0, Nat.zero_le _, rfl, by simp, Below.refl _ w⟩
      case round =>
        obtain ⟨k, hk, rfl, hok, hbw⟩ := hrel
        have hsz := hbw.size
        have HOK := Lib.hid hok
        clear hok
        by_cases hlt : k < l.length
        · obtain ⟨bk, o, F, x, y, rfl, _, hbk, hx, c0, c1, c2⟩ := (HR.out.below hbw (Nat.le_refl _)).at3 hlt
          by_cases hm : OkS (F, x, y)
          · have HN := Lib.hid (show ∀ s ∈ l.take (k + 1), OkS s by
              rw [List.take_add_one, hx]
              intro s hs
              rcases List.mem_append.1 hs with h | h
              · exact HOK.out s h
              · simp at h; rw [h]; exact hm)
            unfold OkS at hm
            simp only at hm
            obtain ⟨m1, m2, m3, m4, m5, m6⟩ := hm
            clear hx
            go_wp2
            go_roundw
            case rel => exact ⟨k + 1, by omega, by go_num, HN.out, hbw.alloc (by omega) _⟩
            case measure => simp [intOf]; omega
          · have HB := Lib.hid (show codeS l = 9 by
              rw [HE.out, if_neg]
              intro h
              exact hm (h _ (List.mem_of_getElem? hx)))
            have HM := Lib.hid hm
            clear hx hm
            have hb2 : Below w.heap.size w (wr.alloc (.cells #[.int .i64 F, .int .i64 x, .int .i64 y] 86)) := hbw.alloc (by omega) _
            have HB2 := Lib.hid hb2
            clear hb2
            go_wp2
            all_goals first
              | (go_ret; exact ⟨by rw [HB.out]; rfl, HB2.out⟩)
              | (exfalso; refine HM.out ⟨?_, ?_, ?_, ?_, ?_, ?_⟩ <;> dsimp only <;> omega)
        · have hall : ∀ s ∈ l, OkS s := by
            have := HOK.out
            rwa [List.take_of_length_le (by omega)] at this
          have HC := Lib.hid (loadLength_any A c l wr (HR.out.old hbw) (by omega) hall)
          have HE2 := Lib.hid (show codeS l = if 1000000000000 < lenS l then 3 else 0 by rw [HE.out, if_pos hall])
          have hbd := lenS_bd hall
          obtain ⟨S, hS⟩ : ∃ S, S = lenS l := ⟨_, rfl⟩
          rw [← hS] at HC HE2 hbd
          clear hS hall
          by_cases hS : 1000000000000 < S
          · rw [if_pos hS] at HE2
            go_wp2_with fail
            refine HC.out.mono ?_
            rintro e w' ⟨rfl, hb2⟩
            go_wp2
            go_ret
            exact ⟨by rw [HE2.out]; rfl, hbw.trans (hb2.mono hsz)⟩
          · rw [if_neg hS] at HE2
            have t5 : decide (1000000000000 < S) = false := by simpa using hS
            go_wp2_with fail
            refine HC.out.mono ?_
            rintro e w' ⟨rfl, hb2⟩
            go_wp2
            go_ret
            exact ⟨by rw [HE2.out]; rfl, hbw.trans (hb2.mono hsz)⟩
end Go.Proofs.YtepfmoaihhonlaaGreatDoor
