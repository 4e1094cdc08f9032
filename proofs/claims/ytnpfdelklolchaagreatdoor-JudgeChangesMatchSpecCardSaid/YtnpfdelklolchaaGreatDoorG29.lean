import Derived.Test.YtnpfdelklolchaaGreatDoorJBin
import Derived.Test.YtnpfdelklolchaaGreatDoorG27
import Derived.Test.YtnpfdelklolchaaGreatDoorG17
import Derived.Test.YtnpfdelklolchaaGreatDoorG22
/- Package dynamometerlaw10: same, halves. -/
namespace Go.Proofs.YtnpfdelklolchaaGreatDoor
open Go Go.RowKit Go.Proofs

set_option maxHeartbeats 8000000 in
set_option maxRecDepth 100000 in
theorem same_any (Sa Sb : ByteArray) (e : Int) (w : World) :
    Calls Tryz.prog 14 #[.agg #[.string Sa, .string Sb], .int .i64 e, .agg #[.string Sa, .string Sb], .int .i64 e] w fun e w' => e = .returned (.bool true) ∧ Below w.heap.size w w' := by
  have HF := Lib.hid (fun o p => (show Below w.heap.size w ((w.alloc o).alloc p) from two_on o p))
  go_enter Tryz.func14, Tryz.ntmps14
  go_wp2
  go_ret
  exact ⟨by rfl, HF.out _ _⟩
set_option maxHeartbeats 8000000 in
set_option maxRecDepth 100000 in
theorem halves_any (w : World) (htab : Tab w.heap.size w) :
    Calls Tryz.prog 7 #[] w fun e w' => e = .returned (.bool true) ∧ Below w.heap.size w w' := by
  have HB := Lib.hid (jBinomial_any ⟨#[49]⟩ ⟨#[50]⟩ [49] [50] 3 1 w rfl rfl (by decide) (by decide) (by omega) (by omega) htab)
  rw [bin_half.1, bin_half.2] at HB
  rw [show ratOf ([49], [50]) = .agg #[.string ⟨#[49]⟩, .string ⟨#[50]⟩] from rfl] at HB
  have HF := Lib.hid (fun W (hb : Below w.heap.size w W) o => (show Below w.heap.size w (W.alloc o) from hb.alloc hb.size _))
  go_enter Tryz.func7, Tryz.ntmps7
  go_wp2_with fail
  (with_reducible refine (HB.out).mono ?_)
  rintro e w1 ⟨rfl, hb1⟩
  have HB1 := Lib.hid hb1
  clear hb1
  go_wp2
  go_ret
  exact ⟨by rfl, HF.out _ HB1.out _⟩
end Go.Proofs.YtnpfdelklolchaaGreatDoor

/- Rows of fractions in memory ([]fraction): no cell of such a row is an integer, so no number lies in the row's own block. -/
namespace Go.Proofs.YtnpfdelklolchaaGreatDoor
open Go Go.RowKit Go.Proofs

/-- a cell that is no integer -/
def NoI (u : Value) : Prop := ∀ k z, u ≠ .int k z
/-- three cells that are a fraction -/
structure Fc where
  A1 : Option Addr
  c1 : Nat
  l1 : List Nat
  x : Nat
  A2 : Option Addr
  c2 : Nat
  l2 : List Nat
  y : Nat
def Fc.v (h : Fc) : List Value := [.bool false, .slice h.A1 h.l1.length h.c1, .slice h.A2 h.l2.length h.c2]
def fcCells (l : List Fc) : List Value := l.flatMap (·.v)
theorem fcCells_length : ∀ l : List Fc, (fcCells l).length = l.length * 3
  | [] => rfl
  | h :: l => by
    have := fcCells_length l
    unfold fcCells at *
    rw [List.flatMap_cons, List.length_append, this, List.length_cons]
    simp [Fc.v]; omega
theorem fcCells_at : ∀ (l : List Fc) (i : Nat) (h : Fc), l[i]? = some h → (fcCells l)[i * 3]? = some (.bool false) ∧ (fcCells l)[i * 3 + 1]? = some (.slice h.A1 h.l1.length h.c1) ∧ (fcCells l)[i * 3 + 2]? = some (.slice h.A2 h.l2.length h.c2)
  | [], i, h, e => by simp at e
  | g :: l, 0, h, e => by
    simp at e; subst e
    simp [fcCells, Fc.v]
  | g :: l, i + 1, h, e => by
    have ih := fcCells_at l i h (by simpa using e)
    have hc : fcCells (g :: l) = g.v ++ fcCells l := by simp [fcCells]
    have hl : g.v.length = 3 := rfl
    rw [hc]
    refine ⟨?_, ?_, ?_⟩
    · rw [List.getElem?_append_right (by rw [hl]; omega), hl, show (i + 1) * 3 - 3 = i * 3 by omega]; exact ih.1
    · rw [List.getElem?_append_right (by rw [hl]; omega), hl, show (i + 1) * 3 + 1 - 3 = i * 3 + 1 by omega]; exact ih.2.1
    · rw [List.getElem?_append_right (by rw [hl]; omega), hl, show (i + 1) * 3 + 2 - 3 = i * 3 + 2 by omega]; exact ih.2.2
theorem noI_v (h : Fc) : ∀ u ∈ h.v, NoI u := by
  intro u hu k z
  simp [Fc.v] at hu
  rcases hu with rfl | rfl | rfl <;> simp
theorem noI_cells (l : List Fc) : ∀ u ∈ fcCells l, NoI u := by
  intro u hu
  unfold fcCells at hu
  obtain ⟨h, _, hh⟩ := List.mem_flatMap.1 hu
  exact noI_v h u hh
abbrev zF : Value := .agg #[.bool false, .slice none 0 0, .slice none 0 0]
theorem noI_zero (n : Nat) : ∀ u ∈ (Builtin.zeroCells zF.cells n).toList, NoI u := by
  intro u hu k z
  unfold Builtin.zeroCells at hu
  simp only [Array.toList_map, List.mem_map] at hu
  obtain ⟨i, _, rfl⟩ := hu
  have h3 : i % 3 = 0 ∨ i % 3 = 1 ∨ i % 3 = 2 := by omega
  rcases h3 with h | h | h <;> simp [zF, Value.cells, h]
theorem zeroCells_size (n : Nat) : (Builtin.zeroCells zF.cells n).size = n * 3 := by simp [Builtin.zeroCells, zF, Value.cells]
/-- a row of fractions of one's own -/
def RowFc (w : World) (base : Nat) (e : TypeId) (v : Value) (xs : List Fc) : Prop :=
  (v = .slice none 0 0 ∧ xs = []) ∨
  ∃ g cap cs, v = .slice (some ⟨g, 0, none⟩) xs.length cap ∧ base ≤ g ∧ w.heap[g]? = some (.cells cs e (0, 0)) ∧ xs.length ≤ cap ∧ cap ≤ maxLen ∧ cs.size = cap * 3 ∧ cs.toList.take (xs.length * 3) = fcCells xs ∧ ∀ u ∈ cs.toList, NoI u
section
variable {w w' : World} {base : Nat} {e : TypeId} {v : Value} {xs : List Fc}
theorem RowFc.own (h : RowFc w base e v xs) : w.ownsRow base e 3 v xs.length (fcCells xs) := by
  refine ⟨fcCells_length xs, ?_⟩
  rcases h with ⟨rfl, rfl⟩ | ⟨g, cap, cs, rfl, hb, hg, h1, h2, h3, h4, _⟩
  · exact .inl ⟨rfl, rfl⟩
  · exact .inr ⟨g, cap, cs, rfl, hb, hg, h1, h2, h3, h4⟩
theorem RowFc.block (h : RowFc w base e v xs) {i : Nat} (hi : some i = v.ownBlock) : base ≤ i ∧ i < w.heap.size := ownsRow_block h.own hi
theorem RowFc.below (h : RowFc w base e v xs) (hb : Below w.heap.size w w') : RowFc w' base e v xs := by
  rcases h with h0 | ⟨g, cap, cs, hv, hg, hh, hr⟩
  · exact .inl h0
  · exact .inr ⟨g, cap, cs, hv, hg, (hb.block g (heap_lt hh)).trans hh, hr⟩
theorem RowFc.mono {base' : Nat} (h : RowFc w base e v xs) (hb : base' ≤ base) : RowFc w base' e v xs := by
  rcases h with h0 | ⟨g, cap, cs, hv, hg, hr⟩
  · exact .inl h0
  · exact .inr ⟨g, cap, cs, hv, Nat.le_trans hb hg, hr⟩
theorem RowFc.of_new (w : World) (base : Nat) (e : TypeId) (ys : List Fc) (cap n : Nat) (hb : base ≤ w.heap.size) (h1 : ys.length + n = cap) (h2 : cap ≤ maxLen) :
    RowFc (w.alloc (.cells ((fcCells ys).toArray ++ Builtin.zeroCells zF.cells n) e)) base e (.slice (some ⟨w.heap.size, 0, none⟩) ys.length cap) ys := by
  refine .inr ⟨w.heap.size, cap, _, rfl, hb, alloc_at _ _ _ rfl, by omega, h2, ?_, ?_, fun u hu => ?_⟩
  · rw [Array.size_append, zeroCells_size, List.size_toArray, fcCells_length]; omega
  · rw [Array.toList_append, List.toList_toArray, List.take_append_of_le_length (by rw [fcCells_length]; omega), List.take_of_length_le (by rw [fcCells_length]; omega)]
  · rw [Array.toList_append, List.toList_toArray, List.mem_append] at hu
    rcases hu with hu | hu
    · exact noI_cells ys u hu
    · exact noI_zero n u hu
/-- no number lies in the row's block -/
theorem RowFc.cells (hr : RowFc w base e v xs) {b j : Nat} {u : Value} (hv : v.ownBlock = some b) (hc : w.cell? ⟨b, j, none⟩ = some u) : NoI u := by
  rcases hr with ⟨rfl, _⟩ | ⟨g, cap, cs, rfl, _, hg, _, _, _, _, hno⟩
  · cases hv
  · simp only [Value.ownBlock, Option.some.injEq] at hv
    subst hv
    rw [cellsAt hg] at hc
    exact hno u (Array.mem_toList_iff.2 (Array.mem_of_getElem? hc))
theorem NatR.rowf {A : Option Addr} {c x : Nat} {l : List Nat} (h : NatR w A c l x) (hr : RowFc w base e v xs) (hg : w.grownBy w' v.ownBlock) : NatR w' A c l x := by
  refine ⟨⟨h.rd.1, fun hl => ?_⟩, h.norm, h.val, h.cap, h.max, h.nil⟩
  obtain ⟨b, o, e', h1, h2, hc⟩ := h.rd.2 hl
  refine ⟨b, o, e', h1, Nat.lt_of_lt_of_le h2 hg.size, fun j u hj => ?_⟩
  rw [← hc j u hj]
  refine World.cell?_of_block (hg.block b h2 (fun hb => ?_))
  have hu := hr.cells hb.symm (hc j u hj)
  unfold u64s at hj
  obtain ⟨d, _, rfl⟩ := List.mem_map.1 (List.mem_of_getElem? hj)
  exact hu _ _ rfl
end
/-- with its numbers -/
def RowFr (w : World) (base : Nat) (e : TypeId) (v : Value) (xs : List Fc) : Prop := RowFc w base e v xs ∧ ∀ h ∈ xs, NatR w h.A1 h.c1 h.l1 h.x ∧ NatR w h.A2 h.c2 h.l2 h.y
section
variable {w w' : World} {base : Nat} {e : TypeId} {v v' : Value} {xs : List Fc} {y : Fc}
theorem RowFr.nil : RowFr w base e (.slice none 0 0) [] := ⟨.inl ⟨rfl, rfl⟩, fun _ h => by cases h⟩
theorem RowFr.call (h : RowFr w base e v xs) (hb : Below w.heap.size w w') : RowFr w' base e v xs := ⟨h.1.below hb, fun y hy => ⟨(h.2 y hy).1.on hb, (h.2 y hy).2.on hb⟩⟩
theorem RowFr.app (h : RowFr w base e v xs) (hy : NatR w y.A1 y.c1 y.l1 y.x) (hy2 : NatR w y.A2 y.c2 y.l2 y.y) (h' : RowFc w' base e v' (xs ++ [y])) (hg : w.grownBy w' v.ownBlock) : RowFr w' base e v' (xs ++ [y]) := by
  refine ⟨h', fun z hz => ?_⟩
  rw [List.mem_append, List.mem_singleton] at hz
  rcases hz with hz | rfl
  · exact ⟨(h.2 z hz).1.rowf h.1 hg, (h.2 z hz).2.rowf h.1 hg⟩
  · exact ⟨hy.rowf h.1 hg, hy2.rowf h.1 hg⟩
/-- an element's cells -/
theorem RowFr.at {i : Nat} {h : Fc} (hr : RowFr w base e v xs) (hi : xs[i]? = some h) : ∃ g cap, v = .slice (some ⟨g, 0, none⟩) xs.length cap ∧ g < w.heap.size ∧ w.cell? ⟨g, i * 3, none⟩ = some (.bool false) ∧ w.cell? ⟨g, i * 3 + 1, none⟩ = some (.slice h.A1 h.l1.length h.c1) ∧ w.cell? ⟨g, i * 3 + 2, none⟩ = some (.slice h.A2 h.l2.length h.c2) ∧ NatR w h.A1 h.c1 h.l1 h.x ∧ NatR w h.A2 h.c2 h.l2 h.y := by
  have hn := hr.2 h (List.mem_of_getElem? hi)
  have hil := (List.getElem?_eq_some_iff.1 hi).1
  obtain ⟨a0, a1, a2⟩ := fcCells_at xs i h hi
  rcases hr.1 with ⟨_, rfl⟩ | ⟨g, cap, cs, rfl, _, hg, _, _, _, htk, _⟩
  · simp at hi
  · have hcell : ∀ j u, (fcCells xs)[j]? = some u → w.cell? ⟨g, j, none⟩ = some u := by
      intro j u hj
      have hjl := (List.getElem?_eq_some_iff.1 hj).1
      rw [fcCells_length] at hjl
      rw [← htk, List.getElem?_take_of_lt hjl, Array.getElem?_toList] at hj
      rw [cellsAt hg]; exact hj
    exact ⟨g, cap, rfl, heap_lt hg, hcell _ _ a0, hcell _ _ a1, hcell _ _ a2, hn.1, hn.2⟩
end
end Go.Proofs.YtnpfdelklolchaaGreatDoor
