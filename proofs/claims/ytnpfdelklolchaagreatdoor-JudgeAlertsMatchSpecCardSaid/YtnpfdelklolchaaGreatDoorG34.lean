import Derived.Test.YtnpfdelklolchaaGreatDoorG1
/- Divisions of a list: plain. -/
namespace Go.Proofs.YtnpfdelklolchaaGreatDoor

/-- lexicographic order of lists of one length -/
def lexL : List Nat → List Nat → Prop
  | [], _ => True
  | _ :: _, [] => False
  | x :: a, y :: b => x < y ∨ (x = y ∧ lexL a b)
theorem lexL_refl : ∀ a, lexL a a
  | [] => trivial
  | _ :: a => .inr ⟨rfl, lexL_refl a⟩
theorem lexL_trans : ∀ {a b c : List Nat}, lexL a b → lexL b c → lexL a c
  | [], _, _, _, _ => trivial
  | _ :: _, [], _, h, _ => h.elim
  | _ :: _, _ :: _, [], _, h => h.elim
  | x :: a, y :: b, z :: c, h1, h2 => by
    rcases h1 with h1 | ⟨h1, h1'⟩ <;> rcases h2 with h2 | ⟨h2, h2'⟩
    · exact .inl (by omega)
    · exact .inl (by omega)
    · exact .inl (by omega)
    · exact .inr ⟨by omega, lexL_trans h1' h2'⟩
theorem lexL_snoc : ∀ {a b : List Nat} (k : Nat), a.length = b.length → lexL a b → lexL (a ++ [k]) (b ++ [k])
  | [], [], _, _, _ => .inr ⟨rfl, trivial⟩
  | [], _ :: _, _, h, _ => absurd h (by simp)
  | _ :: _, [], _, h, _ => absurd h (by simp)
  | x :: a, y :: b, k, h, hl => by
    rcases hl with hl | ⟨rfl, hl⟩
    · exact .inl hl
    · exact .inr ⟨rfl, lexL_snoc k (by simpa using h) hl⟩
/-- a division with its cost: the order in which the best one is sought -/
def leK (x y : Nat × List Nat) : Prop := x.1 < y.1 ∨ (x.1 = y.1 ∧ (x.2.length < y.2.length ∨ (x.2.length = y.2.length ∧ lexL x.2 y.2)))
theorem leK_refl (x : Nat × List Nat) : leK x x := .inr ⟨rfl, .inr ⟨rfl, lexL_refl _⟩⟩
theorem leK_trans {x y z : Nat × List Nat} (h1 : leK x y) (h2 : leK y z) : leK x z := by
  unfold leK at *
  rcases h1 with h1 | ⟨h1, h1' | ⟨h1', h1''⟩⟩ <;> rcases h2 with h2 | ⟨h2, h2' | ⟨h2', h2''⟩⟩
  · exact .inl (by omega)
  · exact .inl (by omega)
  · exact .inl (by omega)
  · exact .inl (by omega)
  · exact .inr ⟨by omega, .inl (by omega)⟩
  · exact .inr ⟨by omega, .inl (by omega)⟩
  · exact .inl (by omega)
  · exact .inr ⟨by omega, .inl (by omega)⟩
  · exact .inr ⟨by omega, .inr ⟨by omega, lexL_trans h1'' h2''⟩⟩
/-- the places of a division of [i, j) -/
def Val : Nat → Nat → List Nat → Prop
  | _, _, [] => True
  | i, j, k :: r => i < k ∧ k < j ∧ Val k j r
theorem Val.snoc : ∀ {i m j : Nat} {r : List Nat}, Val i m r → i < m → m < j → Val i j (r ++ [m])
  | _, _, _, [], _, h1, h2 => ⟨h1, h2, trivial⟩
  | i, m, j, k :: r, h, h1, h2 => ⟨h.1, by have := h.2.1; omega, h.2.2.snoc h.2.1 h2⟩
theorem Val.unsnoc : ∀ {i m j : Nat} {r : List Nat}, Val i j (r ++ [m]) → Val i m r ∧ i < m ∧ m < j
  | _, _, _, [], h => ⟨trivial, h.1, h.2.1⟩
  | i, m, j, k :: r, h => by
    obtain ⟨g1, g2, g3⟩ := Val.unsnoc h.2.2
    exact ⟨⟨h.1, g2, g1⟩, by have := h.1; omega, g3⟩
section
variable (c : Nat → Nat → Nat) (E : Nat)
/-- the cost of a division of [i, j): c of each part, E for each place -/
def cst : Nat → List Nat → Nat → Nat
  | i, [], j => c i j
  | i, k :: r, j => c i k + E + cst k r j
theorem cst_snoc : ∀ (i : Nat) (r : List Nat) (m j : Nat), cst c E i (r ++ [m]) j = cst c E i r m + E + c m j
  | i, [], m, j => by simp [cst]
  | i, k :: r, m, j => by
    have := cst_snoc k r m j
    simp only [List.cons_append, cst]
    omega
/-- the best division -/
def IsMin (i j : Nat) (x : Nat × List Nat) : Prop := Val i j x.2 ∧ x.1 = cst c E i x.2 j ∧ ∀ a, Val i j a → leK x (cst c E i a j, a)
/-- the best one among those whose first place is below k -/
def IsMinF (i j k : Nat) (x : Nat × List Nat) : Prop := Val i j x.2 ∧ x.1 = cst c E i x.2 j ∧ ∀ a, Val i j a → (∀ m r, a = m :: r → m < k) → leK x (cst c E i a j, a)
theorem IsMinF.start (i j : Nat) : IsMinF c E i j (i + 1) (c i j, []) := by
  refine ⟨trivial, rfl, fun a ha hk => ?_⟩
  cases a with
  | nil => exact leK_refl _
  | cons m r => have := ha.1; have := hk m r rfl; omega
theorem leK_front {i k j : Nat} {x : Nat × List Nat} {r : List Nat} (h : leK x (cst c E k r j, r)) : leK (c i k + E + x.1, k :: x.2) (cst c E i (k :: r) j, k :: r) := by
  unfold leK at *
  simp only [cst, List.length_cons] at *
  rcases h with h | ⟨h, h' | ⟨h', h''⟩⟩
  · exact .inl (by omega)
  · exact .inr ⟨by omega, .inl (by omega)⟩
  · exact .inr ⟨by omega, .inr ⟨by omega, .inr ⟨rfl, h''⟩⟩⟩
/-- one first place more -/
theorem IsMinF.step {i j k : Nat} {x y z : Nat × List Nat} (hik : i < k) (hkj : k < j) (hx : IsMinF c E i j k x) (hy : IsMin c E k j y) (hz : (leK (c i k + E + y.1, k :: y.2) x ∧ z = (c i k + E + y.1, k :: y.2)) ∨ (leK x (c i k + E + y.1, k :: y.2) ∧ z = x)) : IsMinF c E i j (k + 1) z := by
  obtain ⟨h1, h2, h3⟩ := hx
  obtain ⟨g1, g2, g3⟩ := hy
  have hle : leK z x ∧ leK z (c i k + E + y.1, k :: y.2) := by
    rcases hz with ⟨hz, rfl⟩ | ⟨hz, rfl⟩
    · exact ⟨hz, leK_refl _⟩
    · exact ⟨leK_refl _, hz⟩
  refine ⟨?_, ?_, fun a ha hk => ?_⟩
  · rcases hz with ⟨_, rfl⟩ | ⟨_, rfl⟩
    · exact ⟨hik, hkj, g1⟩
    · exact h1
  · rcases hz with ⟨_, rfl⟩ | ⟨_, rfl⟩
    · simp only [cst]; rw [g2]
    · exact h2
  · by_cases hak : ∃ r, a = k :: r
    · obtain ⟨r, rfl⟩ := hak
      exact leK_trans hle.2 (leK_front c E (g3 r ha.2.2))
    · refine leK_trans hle.1 (h3 a ha (fun m r e => ?_))
      have := hk m r e
      rcases Nat.lt_or_ge m k with hm | hm
      · exact hm
      · obtain rfl : m = k := by omega
        exact absurd ⟨r, e⟩ hak
theorem IsMinF.done {i j : Nat} {x : Nat × List Nat} (h : IsMinF c E i j j x) : IsMin c E i j x :=
  ⟨h.1, h.2.1, fun a ha => h.2.2 a ha (fun m r e => by subst e; exact ha.2.1)⟩
/-- the best one among those whose last place is at least m; at m = 0 the whole too -/
def IsMinL (i j m : Nat) (x : Nat × List Nat) : Prop := Val i j x.2 ∧ x.1 = cst c E i x.2 j ∧ ∀ a, Val i j a → (∀ r k, a = r ++ [k] → m ≤ k) → (a = [] → m ≤ i) → leK x (cst c E i a j, a)
theorem leK_back {i k j : Nat} {x : Nat × List Nat} {r : List Nat} (h : leK x (cst c E i r k, r)) : leK (x.1 + c k j + E, x.2 ++ [k]) (cst c E i (r ++ [k]) j, r ++ [k]) := by
  unfold leK at *
  rw [cst_snoc]
  simp only [List.length_append, List.length_cons, List.length_nil] at *
  rcases h with h | ⟨h, h' | ⟨h', h''⟩⟩
  · exact .inl (by omega)
  · exact .inr ⟨by omega, .inl (by omega)⟩
  · exact .inr ⟨by omega, .inr ⟨by omega, lexL_snoc k h' h''⟩⟩
/-- the candidate with last place k, or (k = i) the whole -/
def candL (i j k : Nat) (y : Nat × List Nat) : Nat × List Nat := if i < k then (y.1 + c k j + E, y.2 ++ [k]) else (c i j, [])
theorem candL_val {i j k : Nat} {y : Nat × List Nat} (hkj : k < j) (hik : i ≤ k) (hy : i < k → IsMin c E i k y) : Val i j (candL c E i j k y).2 ∧ (candL c E i j k y).1 = cst c E i (candL c E i j k y).2 j := by
  unfold candL
  by_cases h : i < k
  · obtain ⟨g1, g2, _⟩ := hy h
    rw [if_pos h]
    refine ⟨g1.snoc h hkj, ?_⟩
    rw [cst_snoc, ← g2]
    simp only; omega
  · rw [if_neg h]; exact ⟨trivial, rfl⟩
theorem candL_le {i j k : Nat} {y : Nat × List Nat} (hik : i ≤ k) (hy : i < k → IsMin c E i k y) {a : List Nat} (ha : Val i j a) (hk : (∃ r, a = r ++ [k]) ∨ (a = [] ∧ k = i)) : leK (candL c E i j k y) (cst c E i a j, a) := by
  unfold candL
  rcases hk with ⟨r, rfl⟩ | ⟨rfl, rfl⟩
  · obtain ⟨g1, g2, g3⟩ := ha.unsnoc
    rw [if_pos g2]
    exact leK_back c E ((hy g2).2.2 r g1)
  · rw [if_neg (by omega)]
    exact leK_refl _
theorem IsMinL.start {i j : Nat} {y : Nat × List Nat} (hij : i < j) (hy : i < j - 1 → IsMin c E i (j - 1) y) : IsMinL c E i j (j - 1) (candL c E i j (j - 1) y) := by
  obtain ⟨h1, h2⟩ := candL_val c E (show j - 1 < j by omega) (show i ≤ j - 1 by omega) hy
  refine ⟨h1, h2, fun a ha hk h0 => candL_le c E (by omega) hy ha ?_⟩
  rcases List.eq_nil_or_concat a with rfl | ⟨r, k, rfl⟩
  · exact .inr ⟨rfl, by have := h0 rfl; omega⟩
  · rw [List.concat_eq_append] at ha hk ⊢
    have := hk r k rfl
    have := ha.unsnoc.2.2
    obtain rfl : k = j - 1 := by omega
    exact .inl ⟨r, rfl⟩
theorem IsMinL.step {i j m : Nat} {x y z : Nat × List Nat} (him : i ≤ m) (hmj : m < j) (hx : IsMinL c E i j (m + 1) x) (hy : i < m → IsMin c E i m y) (hz : (leK (candL c E i j m y) x ∧ z = candL c E i j m y) ∨ (leK x (candL c E i j m y) ∧ z = x)) : IsMinL c E i j m z := by
  obtain ⟨h1, h2, h3⟩ := hx
  obtain ⟨k1, k2⟩ := candL_val c E hmj him hy
  have hle : leK z x ∧ leK z (candL c E i j m y) := by
    rcases hz with ⟨hz, rfl⟩ | ⟨hz, rfl⟩
    · exact ⟨hz, leK_refl _⟩
    · exact ⟨leK_refl _, hz⟩
  refine ⟨?_, ?_, fun a ha hk h0 => ?_⟩
  · rcases hz with ⟨_, rfl⟩ | ⟨_, rfl⟩
    · exact k1
    · exact h1
  · rcases hz with ⟨_, rfl⟩ | ⟨_, rfl⟩
    · exact k2
    · exact h2
  · by_cases hc : (∃ r, a = r ++ [m]) ∨ (a = [] ∧ m = i)
    · exact leK_trans hle.2 (candL_le c E him hy ha hc)
    · refine leK_trans hle.1 (h3 a ha (fun r k e => ?_) (fun e => ?_))
      · have := hk r k e
        rcases Nat.lt_or_ge m k with g | g
        · exact g
        · obtain rfl : k = m := by omega
          exact absurd (.inl ⟨r, e⟩) hc
      · have := h0 e
        rcases Nat.lt_or_ge m i with g | g
        · omega
        · exact absurd (.inr ⟨e, by omega⟩) hc
theorem IsMinL.done {i j : Nat} {x : Nat × List Nat} (h : IsMinL c E i j i x) : IsMin c E i j x :=
  ⟨h.1, h.2.1, fun a ha => h.2.2 a ha (fun r k e => by subst e; have := ha.unsnoc.2.1; omega) (fun _ => Nat.le_refl _)⟩
end
end Go.Proofs.YtnpfdelklolchaaGreatDoor

/- Lines through points: plain. -/
namespace Go.Proofs.YtnpfdelklolchaaGreatDoor
open Go

/-- the sums of points -/
def pX (l : List (Int × Int)) : Int := (l.map (·.1)).sum
def pY (l : List (Int × Int)) : Int := (l.map (·.2)).sum
def pXX (l : List (Int × Int)) : Int := (l.map fun p => p.1 * p.1).sum
def pXY (l : List (Int × Int)) : Int := (l.map fun p => p.1 * p.2).sum
def pYY (l : List (Int × Int)) : Int := (l.map fun p => p.2 * p.2).sum
/-- squares and spreads of a list of numbers -/
def sqs (l : List Int) : Int := (l.map fun z => z * z).sum
end Go.Proofs.YtnpfdelklolchaaGreatDoor

/- The costs of divisions: plain. -/
namespace Go.Proofs.YtnpfdelklolchaaGreatDoor
open Go

/-- a part of a list -/
def segL (l : List Int) (i j : Nat) : List Int := (l.drop i).take (j - i)
/-- D times the sum of the squared differences from the mean -/
def cS (l : List Int) (D i j : Nat) : Nat := D * (sqs (segL l i j)).toNat - D / (j - i) * ((segL l i j).sum.natAbs * (segL l i j).sum.natAbs)
end Go.Proofs.YtnpfdelklolchaaGreatDoor
