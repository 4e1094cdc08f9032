import Derived.Test.YtnapdhfkgfjjfaaGreatDoorG30
import Derived.Test.YtnapdhfkgfjjfaaGreatDoorG1
import Derived.Test.YtnapdhfkgfjjfaaGreatDoorG16
import Derived.Test.YtnapdhfkgfjjfaaGreatDoorG2
import Derived.Laws.AppendOwn
import Derived.Laws.Append
/- Package dynamometerref0: Ratio, of a negative fraction. -/
namespace Go.Proofs.YtnapdhfkgfjjfaaGreatDoor
open Go Go.RowKit Go.Proofs

end Go.Proofs.YtnapdhfkgfjjfaaGreatDoor

/- The texts of a fraction are a ratio: plain. -/
namespace Go.Proofs.YtnapdhfkgfjjfaaGreatDoor
open Go

end Go.Proofs.YtnapdhfkgfjjfaaGreatDoor

/- Rows of numbers in memory ([]nat.Nat): every cell of such a row is a slice, so no number lies in the row's own block. -/
namespace Go.Proofs.YtnapdhfkgfjjfaaGreatDoor
open Go Go.RowKit Go.Proofs

/-- a number in memory -/
structure Nm where
  A : Option Addr
  c : Nat
  l : List Nat
  x : Nat
instance : Inhabited Nm := ⟨⟨none, 0, [], 0⟩⟩
def Nm.v (h : Nm) : Value := .slice h.A h.l.length h.c
def nmCells (l : List Nm) : List Value := l.map (·.v)
def nmVals (l : List Nm) : List Nat := l.map (·.x)
theorem nmCells_length (l : List Nm) : (nmCells l).length = l.length := by simp [nmCells]
theorem nmVals_length (l : List Nm) : (nmVals l).length = l.length := by simp [nmVals]
/-- a row of numbers of one's own; its spare cells are empty slices -/
def RowS (w : World) (base : Nat) (e : TypeId) (v : Value) (xs : List Nm) : Prop :=
  (v = .slice none 0 0 ∧ xs = []) ∨
  ∃ g cap, v = .slice (some ⟨g, 0, none⟩) xs.length cap ∧ base ≤ g ∧ w.heap[g]? = some (.cells (nmCells xs ++ List.replicate (cap - xs.length) (Value.slice none 0 0)).toArray e (0, 0)) ∧ xs.length ≤ cap ∧ cap ≤ maxLen
section
variable {w w' : World} {base : Nat} {e : TypeId} {v : Value} {xs : List Nm}
theorem RowS.nil : RowS w base e (.slice none 0 0) [] := .inl ⟨rfl, rfl⟩
theorem RowS.own (h : RowS w base e v xs) : w.ownsRow base e 1 v xs.length (nmCells xs) := by
  refine ⟨by simp [nmCells], ?_⟩
  rcases h with ⟨rfl, rfl⟩ | ⟨g, cap, rfl, hb, hg, h1, h2⟩
  · exact .inl ⟨rfl, rfl⟩
  · refine .inr ⟨g, cap, _, rfl, hb, hg, h1, h2, ?_, ?_⟩
    · simp [nmCells]; omega
    · rw [Nat.mul_one, List.take_append_of_le_length (by simp [nmCells]), List.take_of_length_le (by simp [nmCells])]
theorem RowS.fr {may : Nat → Prop} (h : RowS w base e v xs) (hf : Fr may w w') (hm : ∀ i, some i = v.ownBlock → ¬ may i) : RowS w' base e v xs := by
  rcases h with h0 | ⟨g, cap, hv, hb, hh, hr⟩
  · exact .inl h0
  · exact .inr ⟨g, cap, hv, hb, (hf.block g (heap_lt hh) (hm g (by rw [hv]; rfl))).trans hh, hr⟩
theorem RowS.block (h : RowS w base e v xs) {i : Nat} (hi : some i = v.ownBlock) : base ≤ i ∧ i < w.heap.size := ownsRow_block h.own hi
theorem RowS.below (h : RowS w base e v xs) (hb : Below w.heap.size w w') : RowS w' base e v xs :=
  h.fr (Fr.of_below hb) (fun i hi hm => by have := (h.block hi).2; omega)
theorem RowS.alloc (h : RowS w base e v xs) (o : Obj) : RowS (w.alloc o) base e v xs := h.below ((Below.refl _ _).alloc (Nat.le_refl _) _)
theorem RowS.mono {base' : Nat} (h : RowS w base e v xs) (hb : base' ≤ base) : RowS w base' e v xs := by
  rcases h with h0 | ⟨g, cap, hv, hg, hr⟩
  · exact .inl h0
  · exact .inr ⟨g, cap, hv, Nat.le_trans hb hg, hr⟩
/-- a cell of the row's block is a slice -/
theorem RowS.cells (hr : RowS w base e v xs) {b j : Nat} {u : Value} (hv : v.ownBlock = some b) (hc : w.cell? ⟨b, j, none⟩ = some u) : ∃ A n c, u = .slice A n c := by
  rcases hr with ⟨rfl, _⟩ | ⟨g, cap, rfl, _, hg, hnc, _⟩
  · cases hv
  · simp only [Value.ownBlock, Option.some.injEq] at hv
    subst hv
    rw [cellsAt hg, List.getElem?_toArray] at hc
    have hm := List.mem_of_getElem? hc
    rcases List.mem_append.1 hm with hm | hm
    · unfold nmCells at hm
      obtain ⟨y, _, rfl⟩ := List.mem_map.1 hm
      exact ⟨_, _, _, rfl⟩
    · rw [List.eq_of_mem_replicate hm]; exact ⟨_, _, _, rfl⟩
end
/-- a row of base-10000 numbers of one's own, with its numbers -/
def RowR (w : World) (base : Nat) (e : TypeId) (v : Value) (xs : List Nm) : Prop := RowS w base e v xs ∧ ∀ h ∈ xs, RNatR w h.A h.c h.l h.x
/-- a row of base-2^64 numbers of one's own, with its numbers -/
def RowN (w : World) (base : Nat) (e : TypeId) (v : Value) (xs : List Nm) : Prop := RowS w base e v xs ∧ ∀ h ∈ xs, NatR w h.A h.c h.l h.x
section
variable {w w' : World} {base : Nat} {e : TypeId} {v v' : Value} {xs : List Nm} {y : Nm}
theorem RowR.nil : RowR w base e (.slice none 0 0) [] := ⟨.nil, fun _ h => by cases h⟩
theorem RowN.nil : RowN w base e (.slice none 0 0) [] := ⟨.nil, fun _ h => by cases h⟩
theorem RowR.call (h : RowR w base e v xs) (hb : Below w.heap.size w w') : RowR w' base e v xs := ⟨h.1.below hb, fun y hy => (h.2 y hy).on hb⟩
theorem RowN.call (h : RowN w base e v xs) (hb : Below w.heap.size w w') : RowN w' base e v xs := ⟨h.1.below hb, fun y hy => (h.2 y hy).on hb⟩
end
/-- a slice of numbers, as it is read -/
def SeqR (w : World) (A : Option Addr) (n : Nat) (xs : List Nm) : Prop := Rd w 0 w.heap.size 1 A n (nmCells xs) ∧ ∀ h ∈ xs, RNatR w h.A h.c h.l h.x
def SeqN (w : World) (A : Option Addr) (n : Nat) (xs : List Nm) : Prop := Rd w 0 w.heap.size 1 A n (nmCells xs) ∧ ∀ h ∈ xs, NatR w h.A h.c h.l h.x
section
variable {w w' : World} {base n : Nat} {e : TypeId} {A : Option Addr} {v : Value} {xs : List Nm}
theorem SeqR.len (h : SeqR w A n xs) : xs.length = n := by have := h.1.1; rw [nmCells_length] at this; omega
theorem SeqN.len (h : SeqN w A n xs) : xs.length = n := by have := h.1.1; rw [nmCells_length] at this; omega
theorem SeqR.call (h : SeqR w A n xs) (hb : Below w.heap.size w w') : SeqR w' A n xs := ⟨h.1.old hb, fun y hy => (h.2 y hy).on hb⟩
theorem SeqN.call (h : SeqN w A n xs) (hb : Below w.heap.size w w') : SeqN w' A n xs := ⟨h.1.old hb, fun y hy => (h.2 y hy).on hb⟩
theorem rd_cell {i : Nat} (h : Rd w 0 w.heap.size 1 A n (nmCells xs)) (hi : i < n) : ∃ b o y, A = some ⟨b, o, none⟩ ∧ b < w.heap.size ∧ xs[i]? = some y ∧ w.cell? ⟨b, o + i, none⟩ = some y.v := by
  have hl : xs.length = n := by have := h.1; rw [nmCells_length] at this; omega
  obtain ⟨b, o, u, e, hb, hu, hc⟩ := h.at1 hi
  obtain ⟨s, hs⟩ : ∃ s, xs[i]? = some s := ⟨xs[i]'(by omega), List.getElem?_eq_getElem (by omega)⟩
  have hu' : (nmCells xs)[i]? = some s.v := by unfold nmCells; rw [List.getElem?_map, hs]; rfl
  rw [hu'] at hu
  obtain rfl := Option.some.inj hu
  exact ⟨b, o, s, e, hb, hs, hc⟩
theorem SeqR.at {i : Nat} (h : SeqR w A n xs) (hi : i < n) : ∃ b o y, A = some ⟨b, o, none⟩ ∧ b < w.heap.size ∧ xs[i]? = some y ∧ w.cell? ⟨b, o + i, none⟩ = some (.slice y.A y.l.length y.c) ∧ RNatR w y.A y.c y.l y.x := by
  obtain ⟨b, o, y, e, hb, hs, hc⟩ := rd_cell h.1 hi
  exact ⟨b, o, y, e, hb, hs, hc, h.2 y (List.mem_of_getElem? hs)⟩
theorem SeqN.at {i : Nat} (h : SeqN w A n xs) (hi : i < n) : ∃ b o y, A = some ⟨b, o, none⟩ ∧ b < w.heap.size ∧ xs[i]? = some y ∧ w.cell? ⟨b, o + i, none⟩ = some (.slice y.A y.l.length y.c) ∧ NatR w y.A y.c y.l y.x := by
  obtain ⟨b, o, y, e, hb, hs, hc⟩ := rd_cell h.1 hi
  exact ⟨b, o, y, e, hb, hs, hc, h.2 y (List.mem_of_getElem? hs)⟩
end
end Go.Proofs.YtnapdhfkgfjjfaaGreatDoor
