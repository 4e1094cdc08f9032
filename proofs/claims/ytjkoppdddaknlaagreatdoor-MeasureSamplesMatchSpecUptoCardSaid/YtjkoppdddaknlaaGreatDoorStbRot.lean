/- Exchanging and turning parts of a list, one step after the other: plain. -/
import Derived.Test.YtjkoppdddaknlaaGreatDoorStbMath
namespace Go.Proofs.YtjkoppdddaknlaaGreatDoor

/-- all cases of the tests in a goal -/
local macro "ifs" : tactic => `(tactic| ((repeat' split) <;> first | rfl | (exfalso; omega) | (congr 1; omega)))

section
variable {α : Type} {lt : α → α → Prop}
theorem rot_get {l : List α} {s m e : Nat} (h1 : s ≤ m) (h2 : m ≤ e) (h3 : e ≤ l.length) (k : Nat) :
    (rot l s m e)[k]? = if k < s then l[k]? else if k < s + (e - m) then l[k - s + m]? else if k < e then l[k - (e - m)]? else l[k]? := by
  by_cases g1 : k < s
  · rw [if_pos g1, rot_out h1 h2 h3 (.inl g1)]
  · rw [if_neg g1]
    by_cases g2 : k < s + (e - m)
    · rw [if_pos g2, rot_lo h1 h2 h3 (by omega) g2]
    · rw [if_neg g2]
      by_cases g3 : k < e
      · rw [if_pos g3, rot_hi h1 h2 h3 (by omega) g3]
      · rw [if_neg g3, rot_out h1 h2 h3 (.inr (by omega))]
/-- two elements change places -/
def swL (l : List α) (i j : Nat) : List α := match l[i]?, l[j]? with
  | some x, some y => (l.set i y).set j x
  | _, _ => l
theorem swL_length (l : List α) (i j : Nat) : (swL l i j).length = l.length := by
  unfold swL; split <;> simp
theorem swL_get {l : List α} {i j : Nat} (hi : i < l.length) (hj : j < l.length) (k : Nat) : (swL l i j)[k]? = if k = j then l[i]? else if k = i then l[j]? else l[k]? := by
  unfold swL
  rw [List.getElem?_eq_getElem hi, List.getElem?_eq_getElem hj]
  simp only
  by_cases g1 : k = j
  · subst g1
    rw [if_pos rfl, List.getElem?_set_self (by simpa using hj)]
  · rw [if_neg g1, List.getElem?_set_ne (Ne.symm g1)]
    by_cases g2 : k = i
    · subst g2
      rw [if_pos rfl, List.getElem?_set_self hi]
    · rw [if_neg g2, List.getElem?_set_ne (Ne.symm g2)]
/-- two runs of n elements change places -/
def swr (l : List α) (a b : Nat) : Nat → List α
  | 0 => l
  | n + 1 => swL (swr l a b n) (a + n) (b + n)
theorem swr_length (l : List α) (a b : Nat) : ∀ n, (swr l a b n).length = l.length
  | 0 => rfl
  | n + 1 => by rw [swr, swL_length, swr_length l a b n]
theorem swr_get {l : List α} {a b : Nat} : ∀ {n : Nat}, a + n ≤ b → b + n ≤ l.length → ∀ k, (swr l a b n)[k]? = if a ≤ k ∧ k < a + n then l[k - a + b]? else if b ≤ k ∧ k < b + n then l[k - b + a]? else l[k]?
  | 0, _, _, k => by rw [if_neg (by omega), if_neg (by omega)]; rfl
  | n + 1, h1, h2, k => by
    have ih := swr_get (l := l) (a := a) (b := b) (n := n) (by omega) (by omega)
    rw [swr, swL_get (by rw [swr_length]; omega) (by rw [swr_length]; omega), ih, ih, ih]
    ifs
/-- slices.rotate: the left part is the longer one -/
theorem rot_more {l : List α} {m i j : Nat} (h1 : j < i) (h2 : i ≤ m) (h3 : m + j ≤ l.length) : rot (swr l (m - i) m j) (m - (i - j)) m (m + j) = rot l (m - i) m (m + j) := by
  apply List.ext_getElem?
  intro k
  have hl := swr_length l (m - i) m j
  rw [rot_get (by omega) (by omega) (by omega), rot_get (by omega) (by omega) (by omega)]
  simp only [swr_get (l := l) (a := m - i) (b := m) (n := j) (by omega) (by omega)]
  ifs
/-- .. the right one is -/
theorem rot_less {l : List α} {m i j : Nat} (h1 : i < j) (h2 : i ≤ m) (h3 : m + j ≤ l.length) : rot (swr l (m - i) (m + j - i) i) (m - i) m (m + (j - i)) = rot l (m - i) m (m + j) := by
  apply List.ext_getElem?
  intro k
  have hl := swr_length l (m - i) (m + j - i) i
  rw [rot_get (by omega) (by omega) (by omega), rot_get (by omega) (by omega) (by omega)]
  simp only [swr_get (l := l) (a := m - i) (b := m + j - i) (n := i) (by omega) (by omega)]
  ifs
/-- .. both are as long -/
theorem rot_same {l : List α} {m i : Nat} (h2 : i ≤ m) (h3 : m + i ≤ l.length) : swr l (m - i) m i = rot l (m - i) m (m + i) := by
  apply List.ext_getElem?
  intro k
  rw [swr_get (by omega) (by omega), rot_get (by omega) (by omega) (by omega)]
  ifs
/-- one element goes up -/
theorem rot_up {l : List α} {a k : Nat} (h1 : a ≤ k) (h2 : k + 1 < l.length) : swL (rot l a (a + 1) (k + 1)) k (k + 1) = rot l a (a + 1) (k + 2) := by
  apply List.ext_getElem?
  intro q
  have hl := rot_length (l := l) (s := a) (m := a + 1) (e := k + 1) (by omega) (by omega) (by omega)
  rw [swL_get (by omega) (by omega)]
  simp only [rot_get (l := l) (s := a) (m := a + 1) (e := k + 1) (by omega) (by omega) (by omega), rot_get (l := l) (s := a) (m := a + 1) (e := k + 2) (by omega) (by omega) (by omega)]
  ifs
/-- one element goes down -/
theorem rot_down {l : List α} {m k : Nat} (h1 : k + 1 ≤ m) (h2 : m < l.length) : swL (rot l (k + 1) m (m + 1)) (k + 1) k = rot l k m (m + 1) := by
  apply List.ext_getElem?
  intro q
  have hl := rot_length (l := l) (s := k + 1) (m := m) (e := m + 1) (by omega) (by omega) (by omega)
  rw [swL_get (by omega) (by omega)]
  simp only [rot_get (l := l) (s := k + 1) (m := m) (e := m + 1) (by omega) (by omega) (by omega), rot_get (l := l) (s := k) (m := m) (e := m + 1) (by omega) (by omega) (by omega)]
  ifs
theorem rot_start {l : List α} {a : Nat} (h : a < l.length) : rot l a (a + 1) (a + 1) = l := rot_none (by omega) (by omega) (by omega) (.inr rfl)
theorem rot_start' {l : List α} {m : Nat} (h : m < l.length) : rot l m m (m + 1) = l := rot_none (by omega) (by omega) (by omega) (.inl rfl)
/-- one element is put into the sorted part behind it -/
theorem ins_left (tr : ∀ x y z, lt x y → lt y z → lt x z) {l : List α} {a b i : Nat} {x : α} (hb : b ≤ l.length) (h1 : a + 1 ≤ i) (h2 : i ≤ b) (hs : SrtOn lt l (a + 1) b) (hx : l[a]? = some x)
    (g1 : a + 1 < i → ∀ y, l[i - 1]? = some y → lt y x) (g2 : i < b → ∀ y, l[i]? = some y → lt x y) : SrtOn lt (rot l a (a + 1) i) a b := by
  have k1 : ∀ q y, a + 1 ≤ q → q < i → l[q]? = some y → lt y x := by
    intro q y q1 q2 q3
    obtain ⟨v, hv⟩ : ∃ v, l[i - 1]? = some v := ⟨l[i - 1]'(by omega), List.getElem?_eq_getElem (by omega)⟩
    rcases Nat.lt_or_ge q (i - 1) with h | h
    · exact tr _ _ _ (hs q (i - 1) y v q1 h (by omega) q3 hv) (g1 (by omega) v hv)
    · obtain rfl : q = i - 1 := by omega
      exact g1 (by omega) y q3
  have k2 : ∀ q y, i ≤ q → q < b → l[q]? = some y → lt x y := by
    intro q y q1 q2 q3
    obtain ⟨v, hv⟩ : ∃ v, l[i]? = some v := ⟨l[i]'(by omega), List.getElem?_eq_getElem (by omega)⟩
    rcases Nat.lt_or_ge i q with h | h
    · exact tr _ _ _ (g2 (by omega) v hv) (hs i q v y (by omega) h q2 hv q3)
    · obtain rfl : q = i := by omega
      exact g2 (by omega) y q3
  intro p q u v p1 p2 p3 p4 p5
  rw [rot_get (by omega) h1 (by omega)] at p4 p5
  rw [if_neg (by omega)] at p4 p5
  by_cases c1 : p < a + (i - (a + 1))
  · rw [if_pos c1] at p4
    by_cases c2 : q < a + (i - (a + 1))
    · rw [if_pos c2] at p5
      exact hs _ _ u v (by omega) (by omega) (by omega) p4 p5
    · rw [if_neg c2] at p5
      by_cases c3 : q < i
      · rw [if_pos c3, show q - (i - (a + 1)) = a by omega, hx] at p5
        cases p5
        exact k1 _ u (by omega) (by omega) p4
      · rw [if_neg c3] at p5
        exact hs _ _ u v (by omega) (by omega) p3 p4 p5
  · rw [if_neg c1] at p4
    rw [if_neg (by omega)] at p5
    by_cases c3 : p < i
    · rw [if_pos c3, show p - (i - (a + 1)) = a by omega, hx] at p4
      cases p4
      rw [if_neg (by omega)] at p5
      exact k2 q v (by omega) p3 p5
    · rw [if_neg c3] at p4
      rw [if_neg (by omega)] at p5
      exact hs p q u v (by omega) p2 p3 p4 p5
/-- one element is put into the sorted part ahead of it -/
theorem ins_right (tr : ∀ x y z, lt x y → lt y z → lt x z) {l : List α} {a m i : Nat} {x : α} (hb : m < l.length) (h1 : a ≤ i) (h2 : i ≤ m) (hs : SrtOn lt l a m) (hx : l[m]? = some x)
    (g1 : a < i → ∀ y, l[i - 1]? = some y → lt y x) (g2 : i < m → ∀ y, l[i]? = some y → lt x y) : SrtOn lt (rot l i m (m + 1)) a (m + 1) := by
  have k1 : ∀ q y, a ≤ q → q < i → l[q]? = some y → lt y x := by
    intro q y q1 q2 q3
    obtain ⟨v, hv⟩ : ∃ v, l[i - 1]? = some v := ⟨l[i - 1]'(by omega), List.getElem?_eq_getElem (by omega)⟩
    rcases Nat.lt_or_ge q (i - 1) with h | h
    · exact tr _ _ _ (hs q (i - 1) y v q1 h (by omega) q3 hv) (g1 (by omega) v hv)
    · obtain rfl : q = i - 1 := by omega
      exact g1 (by omega) y q3
  have k2 : ∀ q y, i ≤ q → q < m → l[q]? = some y → lt x y := by
    intro q y q1 q2 q3
    obtain ⟨v, hv⟩ : ∃ v, l[i]? = some v := ⟨l[i]'(by omega), List.getElem?_eq_getElem (by omega)⟩
    rcases Nat.lt_or_ge i q with h | h
    · exact tr _ _ _ (g2 (by omega) v hv) (hs i q v y (by omega) h q2 hv q3)
    · obtain rfl : q = i := by omega
      exact g2 (by omega) y q3
  intro p q u v p1 p2 p3 p4 p5
  rw [rot_get h2 (by omega) (by omega)] at p4 p5
  by_cases c1 : p < i
  · rw [if_pos c1] at p4
    by_cases c2 : q < i
    · rw [if_pos c2] at p5
      exact hs p q u v p1 p2 (by omega) p4 p5
    · rw [if_neg c2] at p5
      by_cases c3 : q < i + (m + 1 - m)
      · rw [if_pos c3, show q - i + m = m by omega, hx] at p5
        cases p5
        exact k1 p u p1 c1 p4
      · rw [if_neg c3, if_pos p3] at p5
        exact hs _ _ u v p1 (by omega) (by omega) p4 p5
  · rw [if_neg c1] at p4
    rw [if_neg (by omega), if_neg (by omega), if_pos p3] at p5
    by_cases c3 : p < i + (m + 1 - m)
    · rw [if_pos c3, show p - i + m = m by omega, hx] at p4
      cases p4
      exact k2 _ v (by omega) (by omega) p5
    · rw [if_neg c3, if_pos (by omega)] at p4
      exact hs _ _ u v (by omega) (by omega) (by omega) p4 p5
end
end Go.Proofs.YtjkoppdddaknlaaGreatDoor
