import Derived.Test.YtnpfdelklolchaaGreatDoorG28
import Derived.Test.YtnpfdelklolchaaGreatDoorG27
/- Rows of divisions in memory ([]division, a number and a list of places each): no cell of such a row is an integer, so no number and no list lies in the row's own block. -/
namespace Go.Proofs.YtnpfdelklolchaaGreatDoor
open Go Go.RowKit Go.Proofs

/-- two cells that are a division -/
structure Dv where
  A1 : Option Addr
  c1 : Nat
  l1 : List Nat
  x : Nat
  A2 : Option Addr
  c2 : Nat
  zs : List Nat
def Dv.v (h : Dv) : List Value := [.slice h.A1 h.l1.length h.c1, .slice h.A2 h.zs.length h.c2]
def Dv.k (h : Dv) : Nat × List Nat := (h.x, h.zs)
/-- places as integers -/
def nInts (zs : List Nat) : List Value := zs.map fun z : Nat => .int .i64 (z : Int)
/-- a list of places -/
def PlR (w : World) (A : Option Addr) (c : Nat) (zs : List Nat) : Prop := Rd w 0 w.heap.size 1 A zs.length (nInts zs) ∧ (A = none → zs = [] ∧ c = 0) ∧ (zs = [] → A = none)
theorem PlR.on {w w' : World} {A : Option Addr} {c : Nat} {zs : List Nat} (h : PlR w A c zs) (hb : Below w.heap.size w w') : PlR w' A c zs := ⟨(h.1.below hb (Nat.le_refl _)).more (Nat.le_refl _) hb.size, h.2⟩
theorem PlR.nil (w : World) : PlR w none 0 [] := ⟨⟨rfl, fun h => absurd h (by simp)⟩, fun _ => ⟨rfl, rfl⟩, fun _ => rfl⟩
def dvCells (l : List Dv) : List Value := l.flatMap (·.v)
theorem dvCells_length : ∀ l : List Dv, (dvCells l).length = l.length * 2
  | [] => rfl
  | h :: l => by
    have := dvCells_length l
    unfold dvCells at *
    rw [List.flatMap_cons, List.length_append, this, List.length_cons]
    simp [Dv.v]; omega
theorem dvCells_at : ∀ (l : List Dv) (i : Nat) (h : Dv), l[i]? = some h → (dvCells l)[i * 2]? = some (.slice h.A1 h.l1.length h.c1) ∧ (dvCells l)[i * 2 + 1]? = some (.slice h.A2 h.zs.length h.c2)
  | [], i, h, e => by simp at e
  | g :: l, 0, h, e => by
    simp at e; subst e
    simp [dvCells, Dv.v]
  | g :: l, i + 1, h, e => by
    have ih := dvCells_at l i h (by simpa using e)
    have hc : dvCells (g :: l) = g.v ++ dvCells l := by simp [dvCells]
    have hl : g.v.length = 2 := rfl
    rw [hc]
    refine ⟨?_, ?_⟩
    · rw [List.getElem?_append_right (by rw [hl]; omega), hl, show (i + 1) * 2 - 2 = i * 2 by omega]; exact ih.1
    · rw [List.getElem?_append_right (by rw [hl]; omega), hl, show (i + 1) * 2 + 1 - 2 = i * 2 + 1 by omega]; exact ih.2
theorem noI_vD (h : Dv) : ∀ u ∈ h.v, NoI u := by
  intro u hu k z
  simp [Dv.v] at hu
  rcases hu with rfl | rfl <;> simp
theorem noI_cellsD (l : List Dv) : ∀ u ∈ dvCells l, NoI u := by
  intro u hu
  unfold dvCells at hu
  obtain ⟨h, _, hh⟩ := List.mem_flatMap.1 hu
  exact noI_vD h u hh
abbrev zD : Value := .agg #[.slice none 0 0, .slice none 0 0]
theorem noI_zeroD (n : Nat) : ∀ u ∈ (Builtin.zeroCells zD.cells n).toList, NoI u := by
  intro u hu k z
  unfold Builtin.zeroCells at hu
  simp only [Array.toList_map, List.mem_map] at hu
  obtain ⟨i, _, rfl⟩ := hu
  have h3 : i % 2 = 0 ∨ i % 2 = 1 := by omega
  rcases h3 with h | h <;> simp [Value.cells, h]
theorem zeroCellsD_size (n : Nat) : (Builtin.zeroCells zD.cells n).size = n * 2 := by simp [Builtin.zeroCells, Value.cells]
/-- a row of fractions of one's own -/
def RowDc (w : World) (base : Nat) (e : TypeId) (v : Value) (xs : List Dv) : Prop :=
  (v = .slice none 0 0 ∧ xs = []) ∨
  ∃ g cap cs, v = .slice (some ⟨g, 0, none⟩) xs.length cap ∧ base ≤ g ∧ w.heap[g]? = some (.cells cs e (0, 0)) ∧ xs.length ≤ cap ∧ cap ≤ maxLen ∧ cs.size = cap * 2 ∧ cs.toList.take (xs.length * 2) = dvCells xs ∧ ∀ u ∈ cs.toList, NoI u
section
variable {w w' : World} {base : Nat} {e : TypeId} {v : Value} {xs : List Dv}
theorem RowDc.own (h : RowDc w base e v xs) : w.ownsRow base e 2 v xs.length (dvCells xs) := by
  refine ⟨dvCells_length xs, ?_⟩
  rcases h with ⟨rfl, rfl⟩ | ⟨g, cap, cs, rfl, hb, hg, h1, h2, h3, h4, _⟩
  · exact .inl ⟨rfl, rfl⟩
  · exact .inr ⟨g, cap, cs, rfl, hb, hg, h1, h2, h3, h4⟩
theorem RowDc.block (h : RowDc w base e v xs) {i : Nat} (hi : some i = v.ownBlock) : base ≤ i ∧ i < w.heap.size := ownsRow_block h.own hi
theorem RowDc.below (h : RowDc w base e v xs) (hb : Below w.heap.size w w') : RowDc w' base e v xs := by
  rcases h with h0 | ⟨g, cap, cs, hv, hg, hh, hr⟩
  · exact .inl h0
  · exact .inr ⟨g, cap, cs, hv, hg, (hb.block g (heap_lt hh)).trans hh, hr⟩
theorem RowDc.mono {base' : Nat} (h : RowDc w base e v xs) (hb : base' ≤ base) : RowDc w base' e v xs := by
  rcases h with h0 | ⟨g, cap, cs, hv, hg, hr⟩
  · exact .inl h0
  · exact .inr ⟨g, cap, cs, hv, Nat.le_trans hb hg, hr⟩
theorem RowDc.of_new (w : World) (base : Nat) (e : TypeId) (ys : List Dv) (cap n : Nat) (hb : base ≤ w.heap.size) (h1 : ys.length + n = cap) (h2 : cap ≤ maxLen) :
    RowDc (w.alloc (.cells ((dvCells ys).toArray ++ Builtin.zeroCells zD.cells n) e)) base e (.slice (some ⟨w.heap.size, 0, none⟩) ys.length cap) ys := by
  refine .inr ⟨w.heap.size, cap, _, rfl, hb, alloc_at _ _ _ rfl, by omega, h2, ?_, ?_, fun u hu => ?_⟩
  · rw [Array.size_append, zeroCellsD_size, List.size_toArray, dvCells_length]; omega
  · rw [Array.toList_append, List.toList_toArray, List.take_append_of_le_length (by rw [dvCells_length]; omega), List.take_of_length_le (by rw [dvCells_length]; omega)]
  · rw [Array.toList_append, List.toList_toArray, List.mem_append] at hu
    rcases hu with hu | hu
    · exact noI_cellsD ys u hu
    · exact noI_zeroD n u hu
/-- no number lies in the row's block -/
theorem RowDc.cells (hr : RowDc w base e v xs) {b j : Nat} {u : Value} (hv : v.ownBlock = some b) (hc : w.cell? ⟨b, j, none⟩ = some u) : NoI u := by
  rcases hr with ⟨rfl, _⟩ | ⟨g, cap, cs, rfl, _, hg, _, _, _, _, hno⟩
  · cases hv
  · simp only [Value.ownBlock, Option.some.injEq] at hv
    subst hv
    rw [cellsAt hg] at hc
    exact hno u (Array.mem_toList_iff.2 (Array.mem_of_getElem? hc))
end
/-- with its numbers and lists -/
def DvR (w : World) (h : Dv) : Prop := NatR w h.A1 h.c1 h.l1 h.x ∧ PlR w h.A2 h.c2 h.zs
theorem DvR.on {w w' : World} {h : Dv} (hd : DvR w h) (hb : Below w.heap.size w w') : DvR w' h := ⟨hd.1.on hb, hd.2.on hb⟩
def RowDr (w : World) (base : Nat) (e : TypeId) (v : Value) (xs : List Dv) : Prop := RowDc w base e v xs ∧ ∀ h ∈ xs, DvR w h
section
variable {w w' : World} {base : Nat} {e : TypeId} {v v' : Value} {xs : List Dv} {y : Dv}
theorem RowDr.call (h : RowDr w base e v xs) (hb : Below w.heap.size w w') : RowDr w' base e v xs := ⟨h.1.below hb, fun y hy => (h.2 y hy).on hb⟩
/-- the row as it is made: one division, of nothing -/
theorem RowDr.one (hn : NatR w none 0 [] 0) (hb : base ≤ w.heap.size) : RowDr (w.alloc (.cells #[.slice none 0 0, .slice none 0 0] e)) base e (.slice (some ⟨w.heap.size, 0, none⟩) 1 1) [⟨none, 0, [], 0, none, 0, []⟩] := by
  have h := RowDc.of_new w base e [⟨none, 0, [], 0, none, 0, []⟩] 1 0 hb rfl (by unfold maxLen; omega)
  have e1 : ((dvCells [⟨none, 0, [], 0, none, 0, []⟩]).toArray ++ Builtin.zeroCells zD.cells 0) = #[.slice none 0 0, .slice none 0 0] := by simp [dvCells, Dv.v, Builtin.zeroCells]
  rw [e1] at h
  refine ⟨h, fun y hy => ?_⟩
  rw [List.mem_singleton] at hy
  subst hy
  exact ⟨hn.on ((Below.refl _ w).alloc (Nat.le_refl _) _), PlR.nil _⟩
/-- an element's cells -/
theorem RowDr.at {i : Nat} {h : Dv} (hr : RowDr w base e v xs) (hi : xs[i]? = some h) : ∃ g cap, v = .slice (some ⟨g, 0, none⟩) xs.length cap ∧ g < w.heap.size ∧ w.cell? ⟨g, i * 2, none⟩ = some (.slice h.A1 h.l1.length h.c1) ∧ w.cell? ⟨g, i * 2 + 1, none⟩ = some (.slice h.A2 h.zs.length h.c2) ∧ DvR w h := by
  have hn := hr.2 h (List.mem_of_getElem? hi)
  obtain ⟨a0, a1⟩ := dvCells_at xs i h hi
  rcases hr.1 with ⟨_, rfl⟩ | ⟨g, cap, cs, rfl, _, hg, _, _, _, htk, _⟩
  · simp at hi
  · have hcell : ∀ j u, (dvCells xs)[j]? = some u → w.cell? ⟨g, j, none⟩ = some u := by
      intro j u hj
      have hjl := (List.getElem?_eq_some_iff.1 hj).1
      rw [dvCells_length] at hjl
      rw [← htk, List.getElem?_take_of_lt hjl, Array.getElem?_toList] at hj
      rw [cellsAt hg]; exact hj
    exact ⟨g, cap, rfl, heap_lt hg, hcell _ _ a0, hcell _ _ a1, hn⟩
end
/-- a variable that holds a division -/
def DvB (w : World) (b : Nat) (T : TypeId) (h : Dv) : Prop := w.heap[b]? = some (.cells h.v.toArray T (0, 0)) ∧ DvR w h
section
variable {w w' : World} {b : Nat} {T : TypeId} {h y : Dv}
theorem DvB.lt (hd : DvB w b T h) : b < w.heap.size := heap_lt hd.1
theorem DvB.on (hd : DvB w b T h) (hb : Below w.heap.size w w') : DvB w' b T h := ⟨(hb.block b hd.lt).trans hd.1, hd.2.on hb⟩
theorem DvB.cells (hd : DvB w b T h) : w.cell? ⟨b, 0, none⟩ = some (.slice h.A1 h.l1.length h.c1) ∧ w.cell? ⟨b, 1, none⟩ = some (.slice h.A2 h.zs.length h.c2) ∧ w.frozen? ⟨b, 0, none⟩ = false ∧ w.frozen? ⟨b, 1, none⟩ = false := by
  refine ⟨?_, ?_, frozenAt hd.1 0, frozenAt hd.1 1⟩
  · rw [cellsAt hd.1]; rfl
  · rw [cellsAt hd.1]; rfl
end
end Go.Proofs.YtnpfdelklolchaaGreatDoor

/- Rows of alerts (three integers each) of the call's own. -/
namespace Go.Proofs.YtnpfdelklolchaaGreatDoor
open Go Go.RowKit Go.Proofs

/-- rule, from, to -/
abbrev Al := Int × Int × Int
def al3 : List Al → List Value
  | [] => []
  | x :: r => .int .i64 x.1 :: .int .i64 x.2.1 :: .int .i64 x.2.2 :: al3 r
theorem al3_length : ∀ l : List Al, (al3 l).length = l.length * 3
  | [] => rfl
  | x :: r => by simp only [al3, List.length_cons, al3_length r]; omega
theorem al3_get : ∀ {l : List Al} {i : Nat} {s : Al}, l[i]? = some s → (al3 l)[i * 3]? = some (.int .i64 s.1) ∧ (al3 l)[i * 3 + 1]? = some (.int .i64 s.2.1) ∧ (al3 l)[i * 3 + 2]? = some (.int .i64 s.2.2)
  | [], i, s, h => by simp at h
  | x :: r, 0, s, h => by simp at h; subst h; exact ⟨rfl, rfl, rfl⟩
  | x :: r, i + 1, s, h => by
    have ih := al3_get (l := r) (i := i) (by simpa using h)
    rw [show (i + 1) * 3 = i * 3 + 3 by omega]
    exact ih
theorem al3_set : ∀ (l : List Al) (i : Nat) (s : Al), i < l.length → al3 (l.set i s) = (((al3 l).set (i * 3) (.int .i64 s.1)).set (i * 3 + 1) (.int .i64 s.2.1)).set (i * 3 + 2) (.int .i64 s.2.2)
  | [], _, _, h => by simp at h
  | x :: r, 0, s, _ => by simp [al3]
  | x :: r, i + 1, s, h => by
    have ih := al3_set r i s (by simpa using h)
    have e1 : (i + 1) * 3 = i * 3 + 1 + 1 + 1 := by omega
    simp only [List.set_cons_succ, al3, e1, ih]
theorem al3_append : ∀ (a b : List Al), al3 (a ++ b) = al3 a ++ al3 b
  | [], b => rfl
  | x :: a, b => by simp [al3, al3_append a b]
/-- block g begins with these alerts -/
def RowA (w : World) (g : Nat) (l : List Al) : Prop := ∃ cur, w.heap[g]? = some (.cells cur 104 (0, 0)) ∧ l.length * 3 ≤ cur.size ∧ cur.toList.take (l.length * 3) = al3 l
section
variable {w w' : World} {g i j : Nat} {l : List Al}
theorem RowA.get (h : RowA w g l) {u : Value} (hj : (al3 l)[j]? = some u) : w.cell? ⟨g, j, none⟩ = some u := by
  obtain ⟨cur, h1, h2, h3⟩ := h
  have hl := (List.getElem?_eq_some_iff.1 hj).1
  rw [al3_length] at hl
  rw [cellsAt h1, ← Array.getElem?_toList]
  rw [← h3, List.getElem?_take_of_lt hl] at hj
  exact hj
theorem RowA.at (h : RowA w g l) {s : Al} (hs : l[i]? = some s) : w.cell? ⟨g, i * 3, none⟩ = some (.int .i64 s.1) ∧ w.cell? ⟨g, i * 3 + 1, none⟩ = some (.int .i64 s.2.1) ∧ w.cell? ⟨g, i * 3 + 2, none⟩ = some (.int .i64 s.2.2) := by
  obtain ⟨g1, g2, g3⟩ := al3_get hs
  exact ⟨h.get g1, h.get g2, h.get g3⟩
theorem RowA.frozen (h : RowA w g l) (j : Nat) : w.frozen? ⟨g, j, none⟩ = false := by
  obtain ⟨cur, h1, _⟩ := h
  exact frozenAt h1 j
theorem RowA.lt (h : RowA w g l) : g < w.heap.size := by
  obtain ⟨cur, h1, _⟩ := h
  exact heap_lt h1
theorem RowA.on (h : RowA w g l) (hb : Below w.heap.size w w') : RowA w' g l := by
  obtain ⟨cur, h1, h2⟩ := h
  exact ⟨cur, (hb.block g (heap_lt h1)).trans h1, h2⟩
theorem al_take {xs : List Value} {n i : Nat} (u : Value) : (xs.set i u).take n = (xs.take n).set i u := by
  rw [List.take_set]
theorem RowA.set (h : RowA w g l) (hi : i < l.length) (s : Al) :
    RowA (((w.setCell ⟨g, i * 3, none⟩ (.int .i64 s.1)).setCell ⟨g, i * 3 + 1, none⟩ (.int .i64 s.2.1)).setCell ⟨g, i * 3 + 2, none⟩ (.int .i64 s.2.2)) g (l.set i s) := by
  obtain ⟨cur, h1, h2, h3⟩ := h
  refine ⟨((cur.setIfInBounds (i * 3) (.int .i64 s.1)).setIfInBounds (i * 3 + 1) (.int .i64 s.2.1)).setIfInBounds (i * 3 + 2) (.int .i64 s.2.2), ?_, by simpa using h2, ?_⟩
  · simp [World.setCell, Array.getElem?_modify, h1]
  · simp only [Array.toList_setIfInBounds, List.length_set]
    rw [al_take, al_take, al_take, h3, al3_set l i s hi]
/-- two alerts change places -/
theorem RowA.swap (h : RowA w g l) {x y : Al} (hx : l[i]? = some x) (hy : l[j]? = some y) :
    RowA ((((((w.setCell ⟨g, i * 3, none⟩ (.int .i64 y.1)).setCell ⟨g, i * 3 + 1, none⟩ (.int .i64 y.2.1)).setCell ⟨g, i * 3 + 2, none⟩ (.int .i64 y.2.2)).setCell ⟨g, j * 3, none⟩ (.int .i64 x.1)).setCell ⟨g, j * 3 + 1, none⟩ (.int .i64 x.2.1)).setCell ⟨g, j * 3 + 2, none⟩ (.int .i64 x.2.2)) g (swL l i j) := by
  have hi := (List.getElem?_eq_some_iff.1 hx).1
  have hj := (List.getElem?_eq_some_iff.1 hy).1
  have h2 := (h.set hi y).set (i := j) (by rw [List.length_set]; exact hj) x
  unfold swL
  rw [hx, hy]
  exact h2
theorem al_fr (w : World) (g i j : Nat) (a b c d e f : Value) : Fr (fun q => q = g) w ((((((w.setCell ⟨g, i, none⟩ a).setCell ⟨g, i + 1, none⟩ b).setCell ⟨g, i + 2, none⟩ c).setCell ⟨g, j, none⟩ d).setCell ⟨g, j + 1, none⟩ e).setCell ⟨g, j + 2, none⟩ f) :=
  ((((((Fr.refl (fun q => q = g) w).setCell (p := ⟨g, i, none⟩) (fun _ => rfl) _).setCell (p := ⟨g, i + 1, none⟩) (fun _ => rfl) _).setCell (p := ⟨g, i + 2, none⟩) (fun _ => rfl) _).setCell (p := ⟨g, j, none⟩) (fun _ => rfl) _).setCell (p := ⟨g, j + 1, none⟩) (fun _ => rfl) _).setCell (p := ⟨g, j + 2, none⟩) (fun _ => rfl) _
end
end Go.Proofs.YtnpfdelklolchaaGreatDoor
