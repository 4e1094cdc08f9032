import Derived.Test.YtnpfdelklolchaaGreatDoorG27
import Derived.Test.YtnpfdelklolchaaGreatDoorG16
import Derived.Test.YtnpfdelklolchaaGreatDoorG21
/- Exchanging and turning parts of a list, one step after the other: plain. -/
namespace Go.Proofs.YtnpfdelklolchaaGreatDoor

/-- all cases of the tests in a goal -/
local macro "ifs" : tactic => `(tactic| ((repeat' split) <;> first | rfl | (exfalso; omega) | (congr 1; omega)))

section
variable {α : Type} {lt : α → α → Prop}
theorem rot_get {l : List α} {s m e : Nat} (h1 : s ≤ m) (h2 : m ≤ e) (h3 : e ≤ l.length) (k : Nat) :
    (rot l s m e)[k]? = if k < s then l[k]? else if k < s + (e - m) then l[k - s + m]? else if k < e then l[k - (e - m)]? else l[k]? := by
  by_cases g1 : k < s
  · rw [if_pos g1, rot_out h1 h2 h3 (.inl g1)]
  · rw [if_neg g1]
    by_cases g2 : k < s + (e - m)
    · rw [if_pos g2, rot_lo h1 h2 h3 (by omega) g2]
    · rw [if_neg g2]
      by_cases g3 : k < e
      · rw [if_pos g3, rot_hi h1 h2 h3 (by omega) g3]
      · rw [if_neg g3, rot_out h1 h2 h3 (.inr (by omega))]
/-- two elements change places -/
def swL (l : List α) (i j : Nat) : List α := match l[i]?, l[j]? with
  | some x, some y => (l.set i y).set j x
  | _, _ => l
theorem swL_length (l : List α) (i j : Nat) : (swL l i j).length = l.length := by
  unfold swL; split <;> simp
theorem swL_get {l : List α} {i j : Nat} (hi : i < l.length) (hj : j < l.length) (k : Nat) : (swL l i j)[k]? = if k = j then l[i]? else if k = i then l[j]? else l[k]? := by
  unfold swL
  rw [List.getElem?_eq_getElem hi, List.getElem?_eq_getElem hj]
  simp only
  by_cases g1 : k = j
  · subst g1
    rw [if_pos rfl, List.getElem?_set_self (by simpa using hj)]
  · rw [if_neg g1, List.getElem?_set_ne (Ne.symm g1)]
    by_cases g2 : k = i
    · subst g2
      rw [if_pos rfl, List.getElem?_set_self hi]
    · rw [if_neg g2, List.getElem?_set_ne (Ne.symm g2)]
/-- two runs of n elements change places -/
def swr (l : List α) (a b : Nat) : Nat → List α
  | 0 => l
  | n + 1 => swL (swr l a b n) (a + n) (b + n)
theorem swr_length (l : List α) (a b : Nat) : ∀ n, (swr l a b n).length = l.length
  | 0 => rfl
  | n + 1 => by rw [swr, swL_length, swr_length l a b n]
theorem swr_get {l : List α} {a b : Nat} : ∀ {n : Nat}, a + n ≤ b → b + n ≤ l.length → ∀ k, (swr l a b n)[k]? = if a ≤ k ∧ k < a + n then l[k - a + b]? else if b ≤ k ∧ k < b + n then l[k - b + a]? else l[k]?
  | 0, _, _, k => by rw [if_neg (by omega), if_neg (by omega)]; rfl
  | n + 1, h1, h2, k => by
    have ih := swr_get (l := l) (a := a) (b := b) (n := n) (by omega) (by omega)
    rw [swr, swL_get (by rw [swr_length]; omega) (by rw [swr_length]; omega), ih, ih, ih]
    ifs
/-- slices.rotate: the left part is the longer one -/
theorem rot_more {l : List α} {m i j : Nat} (h1 : j < i) (h2 : i ≤ m) (h3 : m + j ≤ l.length) : rot (swr l (m - i) m j) (m - (i - j)) m (m + j) = rot l (m - i) m (m + j) := by
  apply List.ext_getElem?
  intro k
  have hl := swr_length l (m - i) m j
  rw [rot_get (by omega) (by omega) (by omega), rot_get (by omega) (by omega) (by omega)]
  simp only [swr_get (l := l) (a := m - i) (b := m) (n := j) (by omega) (by omega)]
  ifs
/-- .. the right one is -/
theorem rot_less {l : List α} {m i j : Nat} (h1 : i < j) (h2 : i ≤ m) (h3 : m + j ≤ l.length) : rot (swr l (m - i) (m + j - i) i) (m - i) m (m + (j - i)) = rot l (m - i) m (m + j) := by
  apply List.ext_getElem?
  intro k
  have hl := swr_length l (m - i) (m + j - i) i
  rw [rot_get (by omega) (by omega) (by omega), rot_get (by omega) (by omega) (by omega)]
  simp only [swr_get (l := l) (a := m - i) (b := m + j - i) (n := i) (by omega) (by omega)]
  ifs
/-- .. both are as long -/
theorem rot_same {l : List α} {m i : Nat} (h2 : i ≤ m) (h3 : m + i ≤ l.length) : swr l (m - i) m i = rot l (m - i) m (m + i) := by
  apply List.ext_getElem?
  intro k
  rw [swr_get (by omega) (by omega), rot_get (by omega) (by omega) (by omega)]
  ifs
/-- one element goes up -/
theorem rot_up {l : List α} {a k : Nat} (h1 : a ≤ k) (h2 : k + 1 < l.length) : swL (rot l a (a + 1) (k + 1)) k (k + 1) = rot l a (a + 1) (k + 2) := by
  apply List.ext_getElem?
  intro q
  have hl := rot_length (l := l) (s := a) (m := a + 1) (e := k + 1) (by omega) (by omega) (by omega)
  rw [swL_get (by omega) (by omega)]
  simp only [rot_get (l := l) (s := a) (m := a + 1) (e := k + 1) (by omega) (by omega) (by omega), rot_get (l := l) (s := a) (m := a + 1) (e := k + 2) (by omega) (by omega) (by omega)]
  ifs
/-- one element goes down -/
theorem rot_down {l : List α} {m k : Nat} (h1 : k + 1 ≤ m) (h2 : m < l.length) : swL (rot l (k + 1) m (m + 1)) (k + 1) k = rot l k m (m + 1) := by
  apply List.ext_getElem?
  intro q
  have hl := rot_length (l := l) (s := k + 1) (m := m) (e := m + 1) (by omega) (by omega) (by omega)
  rw [swL_get (by omega) (by omega)]
  simp only [rot_get (l := l) (s := k + 1) (m := m) (e := m + 1) (by omega) (by omega) (by omega), rot_get (l := l) (s := k) (m := m) (e := m + 1) (by omega) (by omega) (by omega)]
  ifs
theorem rot_start {l : List α} {a : Nat} (h : a < l.length) : rot l a (a + 1) (a + 1) = l := rot_none (by omega) (by omega) (by omega) (.inr rfl)
theorem rot_start' {l : List α} {m : Nat} (h : m < l.length) : rot l m m (m + 1) = l := rot_none (by omega) (by omega) (by omega) (.inl rfl)
/-- one element is put into the sorted part behind it -/
theorem ins_left (tr : ∀ x y z, lt x y → lt y z → lt x z) {l : List α} {a b i : Nat} {x : α} (hb : b ≤ l.length) (h1 : a + 1 ≤ i) (h2 : i ≤ b) (hs : SrtOn lt l (a + 1) b) (hx : l[a]? = some x)
    (g1 : a + 1 < i → ∀ y, l[i - 1]? = some y → lt y x) (g2 : i < b → ∀ y, l[i]? = some y → lt x y) : SrtOn lt (rot l a (a + 1) i) a b := by
  have k1 : ∀ q y, a + 1 ≤ q → q < i → l[q]? = some y → lt y x := by
    intro q y q1 q2 q3
    obtain ⟨v, hv⟩ : ∃ v, l[i - 1]? = some v := ⟨l[i - 1]'(by omega), List.getElem?_eq_getElem (by omega)⟩
    rcases Nat.lt_or_ge q (i - 1) with h | h
    · exact tr _ _ _ (hs q (i - 1) y v q1 h (by omega) q3 hv) (g1 (by omega) v hv)
    · obtain rfl : q = i - 1 := by omega
      exact g1 (by omega) y q3
  have k2 : ∀ q y, i ≤ q → q < b → l[q]? = some y → lt x y := by
    intro q y q1 q2 q3
    obtain ⟨v, hv⟩ : ∃ v, l[i]? = some v := ⟨l[i]'(by omega), List.getElem?_eq_getElem (by omega)⟩
    rcases Nat.lt_or_ge i q with h | h
    · exact tr _ _ _ (g2 (by omega) v hv) (hs i q v y (by omega) h q2 hv q3)
    · obtain rfl : q = i := by omega
      exact g2 (by omega) y q3
  intro p q u v p1 p2 p3 p4 p5
  rw [rot_get (by omega) h1 (by omega)] at p4 p5
  rw [if_neg (by omega)] at p4 p5
  by_cases c1 : p < a + (i - (a + 1))
  · rw [if_pos c1] at p4
    by_cases c2 : q < a + (i - (a + 1))
    · rw [if_pos c2] at p5
      exact hs _ _ u v (by omega) (by omega) (by omega) p4 p5
    · rw [if_neg c2] at p5
      by_cases c3 : q < i
      · rw [if_pos c3, show q - (i - (a + 1)) = a by omega, hx] at p5
        cases p5
        exact k1 _ u (by omega) (by omega) p4
      · rw [if_neg c3] at p5
        exact hs _ _ u v (by omega) (by omega) p3 p4 p5
  · rw [if_neg c1] at p4
    rw [if_neg (by omega)] at p5
    by_cases c3 : p < i
    · rw [if_pos c3, show p - (i - (a + 1)) = a by omega, hx] at p4
      cases p4
      rw [if_neg (by omega)] at p5
      exact k2 q v (by omega) p3 p5
    · rw [if_neg c3] at p4
      rw [if_neg (by omega)] at p5
      exact hs p q u v (by omega) p2 p3 p4 p5
/-- one element is put into the sorted part ahead of it -/
theorem ins_right (tr : ∀ x y z, lt x y → lt y z → lt x z) {l : List α} {a m i : Nat} {x : α} (hb : m < l.length) (h1 : a ≤ i) (h2 : i ≤ m) (hs : SrtOn lt l a m) (hx : l[m]? = some x)
    (g1 : a < i → ∀ y, l[i - 1]? = some y → lt y x) (g2 : i < m → ∀ y, l[i]? = some y → lt x y) : SrtOn lt (rot l i m (m + 1)) a (m + 1) := by
  have k1 : ∀ q y, a ≤ q → q < i → l[q]? = some y → lt y x := by
    intro q y q1 q2 q3
    obtain ⟨v, hv⟩ : ∃ v, l[i - 1]? = some v := ⟨l[i - 1]'(by omega), List.getElem?_eq_getElem (by omega)⟩
    rcases Nat.lt_or_ge q (i - 1) with h | h
    · exact tr _ _ _ (hs q (i - 1) y v q1 h (by omega) q3 hv) (g1 (by omega) v hv)
    · obtain rfl : q = i - 1 := by omega
      exact g1 (by omega) y q3
  have k2 : ∀ q y, i ≤ q → q < m → l[q]? = some y → lt x y := by
    intro q y q1 q2 q3
    obtain ⟨v, hv⟩ : ∃ v, l[i]? = some v := ⟨l[i]'(by omega), List.getElem?_eq_getElem (by omega)⟩
    rcases Nat.lt_or_ge i q with h | h
    · exact tr _ _ _ (g2 (by omega) v hv) (hs i q v y (by omega) h q2 hv q3)
    · obtain rfl : q = i := by omega
      exact g2 (by omega) y q3
  intro p q u v p1 p2 p3 p4 p5
  rw [rot_get h2 (by omega) (by omega)] at p4 p5
  by_cases c1 : p < i
  · rw [if_pos c1] at p4
    by_cases c2 : q < i
    · rw [if_pos c2] at p5
      exact hs p q u v p1 p2 (by omega) p4 p5
    · rw [if_neg c2] at p5
      by_cases c3 : q < i + (m + 1 - m)
      · rw [if_pos c3, show q - i + m = m by omega, hx] at p5
        cases p5
        exact k1 p u p1 c1 p4
      · rw [if_neg c3, if_pos p3] at p5
        exact hs _ _ u v p1 (by omega) (by omega) p4 p5
  · rw [if_neg c1] at p4
    rw [if_neg (by omega), if_neg (by omega), if_pos p3] at p5
    by_cases c3 : p < i + (m + 1 - m)
    · rw [if_pos c3, show p - i + m = m by omega, hx] at p4
      cases p4
      exact k2 _ v (by omega) (by omega) p5
    · rw [if_neg c3, if_pos (by omega)] at p4
      exact hs _ _ u v (by omega) (by omega) (by omega) p4 p5
end
end Go.Proofs.YtnpfdelklolchaaGreatDoor

/- Rows of fractions in memory ([]fraction): no cell of such a row is an integer, so no number lies in the row's own block. -/
namespace Go.Proofs.YtnpfdelklolchaaGreatDoor
open Go Go.RowKit Go.Proofs

/-- a cell that is no integer -/
def NoI (u : Value) : Prop := ∀ k z, u ≠ .int k z
/-- three cells that are a fraction -/
structure Fc where
  A1 : Option Addr
  c1 : Nat
  l1 : List Nat
  x : Nat
  A2 : Option Addr
  c2 : Nat
  l2 : List Nat
  y : Nat
def Fc.v (h : Fc) : List Value := [.bool false, .slice h.A1 h.l1.length h.c1, .slice h.A2 h.l2.length h.c2]
def fcCells (l : List Fc) : List Value := l.flatMap (·.v)
theorem fcCells_length : ∀ l : List Fc, (fcCells l).length = l.length * 3
  | [] => rfl
  | h :: l => by
    have := fcCells_length l
    unfold fcCells at *
    rw [List.flatMap_cons, List.length_append, this, List.length_cons]
    simp [Fc.v]; omega
theorem fcCells_at : ∀ (l : List Fc) (i : Nat) (h : Fc), l[i]? = some h → (fcCells l)[i * 3]? = some (.bool false) ∧ (fcCells l)[i * 3 + 1]? = some (.slice h.A1 h.l1.length h.c1) ∧ (fcCells l)[i * 3 + 2]? = some (.slice h.A2 h.l2.length h.c2)
  | [], i, h, e => by simp at e
  | g :: l, 0, h, e => by
    simp at e; subst e
    simp [fcCells, Fc.v]
  | g :: l, i + 1, h, e => by
    have ih := fcCells_at l i h (by simpa using e)
    have hc : fcCells (g :: l) = g.v ++ fcCells l := by simp [fcCells]
    have hl : g.v.length = 3 := rfl
    rw [hc]
    refine ⟨?_, ?_, ?_⟩
    · rw [List.getElem?_append_right (by rw [hl]; omega), hl, show (i + 1) * 3 - 3 = i * 3 by omega]; exact ih.1
    · rw [List.getElem?_append_right (by rw [hl]; omega), hl, show (i + 1) * 3 + 1 - 3 = i * 3 + 1 by omega]; exact ih.2.1
    · rw [List.getElem?_append_right (by rw [hl]; omega), hl, show (i + 1) * 3 + 2 - 3 = i * 3 + 2 by omega]; exact ih.2.2
theorem noI_v (h : Fc) : ∀ u ∈ h.v, NoI u := by
  intro u hu k z
  simp [Fc.v] at hu
  rcases hu with rfl | rfl | rfl <;> simp
theorem noI_cells (l : List Fc) : ∀ u ∈ fcCells l, NoI u := by
  intro u hu
  unfold fcCells at hu
  obtain ⟨h, _, hh⟩ := List.mem_flatMap.1 hu
  exact noI_v h u hh
abbrev zF : Value := .agg #[.bool false, .slice none 0 0, .slice none 0 0]
theorem noI_zero (n : Nat) : ∀ u ∈ (Builtin.zeroCells zF.cells n).toList, NoI u := by
  intro u hu k z
  unfold Builtin.zeroCells at hu
  simp only [Array.toList_map, List.mem_map] at hu
  obtain ⟨i, _, rfl⟩ := hu
  have h3 : i % 3 = 0 ∨ i % 3 = 1 ∨ i % 3 = 2 := by omega
  rcases h3 with h | h | h <;> simp [zF, Value.cells, h]
theorem zeroCells_size (n : Nat) : (Builtin.zeroCells zF.cells n).size = n * 3 := by simp [Builtin.zeroCells, zF, Value.cells]
/-- a row of fractions of one's own -/
def RowFc (w : World) (base : Nat) (e : TypeId) (v : Value) (xs : List Fc) : Prop :=
  (v = .slice none 0 0 ∧ xs = []) ∨
  ∃ g cap cs, v = .slice (some ⟨g, 0, none⟩) xs.length cap ∧ base ≤ g ∧ w.heap[g]? = some (.cells cs e (0, 0)) ∧ xs.length ≤ cap ∧ cap ≤ maxLen ∧ cs.size = cap * 3 ∧ cs.toList.take (xs.length * 3) = fcCells xs ∧ ∀ u ∈ cs.toList, NoI u
section
variable {w w' : World} {base : Nat} {e : TypeId} {v : Value} {xs : List Fc}
theorem RowFc.own (h : RowFc w base e v xs) : w.ownsRow base e 3 v xs.length (fcCells xs) := by
  refine ⟨fcCells_length xs, ?_⟩
  rcases h with ⟨rfl, rfl⟩ | ⟨g, cap, cs, rfl, hb, hg, h1, h2, h3, h4, _⟩
  · exact .inl ⟨rfl, rfl⟩
  · exact .inr ⟨g, cap, cs, rfl, hb, hg, h1, h2, h3, h4⟩
theorem RowFc.block (h : RowFc w base e v xs) {i : Nat} (hi : some i = v.ownBlock) : base ≤ i ∧ i < w.heap.size := ownsRow_block h.own hi
theorem RowFc.below (h : RowFc w base e v xs) (hb : Below w.heap.size w w') : RowFc w' base e v xs := by
  rcases h with h0 | ⟨g, cap, cs, hv, hg, hh, hr⟩
  · exact .inl h0
  · exact .inr ⟨g, cap, cs, hv, hg, (hb.block g (heap_lt hh)).trans hh, hr⟩
theorem RowFc.mono {base' : Nat} (h : RowFc w base e v xs) (hb : base' ≤ base) : RowFc w base' e v xs := by
  rcases h with h0 | ⟨g, cap, cs, hv, hg, hr⟩
  · exact .inl h0
  · exact .inr ⟨g, cap, cs, hv, Nat.le_trans hb hg, hr⟩
theorem RowFc.of_new (w : World) (base : Nat) (e : TypeId) (ys : List Fc) (cap n : Nat) (hb : base ≤ w.heap.size) (h1 : ys.length + n = cap) (h2 : cap ≤ maxLen) :
    RowFc (w.alloc (.cells ((fcCells ys).toArray ++ Builtin.zeroCells zF.cells n) e)) base e (.slice (some ⟨w.heap.size, 0, none⟩) ys.length cap) ys := by
  refine .inr ⟨w.heap.size, cap, _, rfl, hb, alloc_at _ _ _ rfl, by omega, h2, ?_, ?_, fun u hu => ?_⟩
  · rw [Array.size_append, zeroCells_size, List.size_toArray, fcCells_length]; omega
  · rw [Array.toList_append, List.toList_toArray, List.take_append_of_le_length (by rw [fcCells_length]; omega), List.take_of_length_le (by rw [fcCells_length]; omega)]
  · rw [Array.toList_append, List.toList_toArray, List.mem_append] at hu
    rcases hu with hu | hu
    · exact noI_cells ys u hu
    · exact noI_zero n u hu
/-- no number lies in the row's block -/
theorem RowFc.cells (hr : RowFc w base e v xs) {b j : Nat} {u : Value} (hv : v.ownBlock = some b) (hc : w.cell? ⟨b, j, none⟩ = some u) : NoI u := by
  rcases hr with ⟨rfl, _⟩ | ⟨g, cap, cs, rfl, _, hg, _, _, _, _, hno⟩
  · cases hv
  · simp only [Value.ownBlock, Option.some.injEq] at hv
    subst hv
    rw [cellsAt hg] at hc
    exact hno u (Array.mem_toList_iff.2 (Array.mem_of_getElem? hc))
end
/-- with its numbers -/
def RowFr (w : World) (base : Nat) (e : TypeId) (v : Value) (xs : List Fc) : Prop := RowFc w base e v xs ∧ ∀ h ∈ xs, NatR w h.A1 h.c1 h.l1 h.x ∧ NatR w h.A2 h.c2 h.l2 h.y
section
variable {w w' : World} {base : Nat} {e : TypeId} {v v' : Value} {xs : List Fc} {y : Fc}
theorem RowFr.nil : RowFr w base e (.slice none 0 0) [] := ⟨.inl ⟨rfl, rfl⟩, fun _ h => by cases h⟩
theorem RowFr.call (h : RowFr w base e v xs) (hb : Below w.heap.size w w') : RowFr w' base e v xs := ⟨h.1.below hb, fun y hy => ⟨(h.2 y hy).1.on hb, (h.2 y hy).2.on hb⟩⟩
/-- an element's cells -/
theorem RowFr.at {i : Nat} {h : Fc} (hr : RowFr w base e v xs) (hi : xs[i]? = some h) : ∃ g cap, v = .slice (some ⟨g, 0, none⟩) xs.length cap ∧ g < w.heap.size ∧ w.cell? ⟨g, i * 3, none⟩ = some (.bool false) ∧ w.cell? ⟨g, i * 3 + 1, none⟩ = some (.slice h.A1 h.l1.length h.c1) ∧ w.cell? ⟨g, i * 3 + 2, none⟩ = some (.slice h.A2 h.l2.length h.c2) ∧ NatR w h.A1 h.c1 h.l1 h.x ∧ NatR w h.A2 h.c2 h.l2 h.y := by
  have hn := hr.2 h (List.mem_of_getElem? hi)
  have hil := (List.getElem?_eq_some_iff.1 hi).1
  obtain ⟨a0, a1, a2⟩ := fcCells_at xs i h hi
  rcases hr.1 with ⟨_, rfl⟩ | ⟨g, cap, cs, rfl, _, hg, _, _, _, htk, _⟩
  · simp at hi
  · have hcell : ∀ j u, (fcCells xs)[j]? = some u → w.cell? ⟨g, j, none⟩ = some u := by
      intro j u hj
      have hjl := (List.getElem?_eq_some_iff.1 hj).1
      rw [fcCells_length] at hjl
      rw [← htk, List.getElem?_take_of_lt hjl, Array.getElem?_toList] at hj
      rw [cellsAt hg]; exact hj
    exact ⟨g, cap, rfl, heap_lt hg, hcell _ _ a0, hcell _ _ a1, hcell _ _ a2, hn.1, hn.2⟩
end
end Go.Proofs.YtnpfdelklolchaaGreatDoor
