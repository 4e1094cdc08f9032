import Derived.Test.YtlkjgjojahjapaaGreatDoorG15
import Derived.Test.YtlkjgjojahjapaaGreatDoorG23
import Derived.Test.YtlkjgjojahjapaaGreatDoorG0
import Derived.Test.YtlkjgjojahjapaaGreatDoorG31
import Derived.Test.YtlkjgjojahjapaaGreatDoorG24
/- Rows of fractions in memory ([]fraction): no cell of such a row is an integer, so no number lies in the row's own block. -/
namespace Go.Proofs.YtlkjgjojahjapaaGreatDoor
open Go Go.RowKit Go.Proofs

/-- a cell that is no integer -/
def NoI (u : Value) : Prop := ∀ k z, u ≠ .int k z
/-- three cells that are a fraction -/
structure Fc where
  A1 : Option Addr
  c1 : Nat
  l1 : List Nat
  x : Nat
  A2 : Option Addr
  c2 : Nat
  l2 : List Nat
  y : Nat
def Fc.v (h : Fc) : List Value := [.bool false, .slice h.A1 h.l1.length h.c1, .slice h.A2 h.l2.length h.c2]
def fcCells (l : List Fc) : List Value := l.flatMap (·.v)
theorem fcCells_length : ∀ l : List Fc, (fcCells l).length = l.length * 3
  | [] => rfl
  | h :: l => by
    have := fcCells_length l
    unfold fcCells at *
    rw [List.flatMap_cons, List.length_append, this, List.length_cons]
    simp [Fc.v]; omega
theorem fcCells_app (l : List Fc) (h : Fc) : fcCells (l ++ [h]) = fcCells l ++ h.v := by simp [fcCells]
theorem fcCells_at : ∀ (l : List Fc) (i : Nat) (h : Fc), l[i]? = some h → (fcCells l)[i * 3]? = some (.bool false) ∧ (fcCells l)[i * 3 + 1]? = some (.slice h.A1 h.l1.length h.c1) ∧ (fcCells l)[i * 3 + 2]? = some (.slice h.A2 h.l2.length h.c2)
  | [], i, h, e => by simp at e
  | g :: l, 0, h, e => by
    simp at e; subst e
    simp [fcCells, Fc.v]
  | g :: l, i + 1, h, e => by
    have ih := fcCells_at l i h (by simpa using e)
    have hc : fcCells (g :: l) = g.v ++ fcCells l := by simp [fcCells]
    have hl : g.v.length = 3 := rfl
    rw [hc]
    refine ⟨?_, ?_, ?_⟩
    · rw [List.getElem?_append_right (by rw [hl]; omega), hl, show (i + 1) * 3 - 3 = i * 3 by omega]; exact ih.1
    · rw [List.getElem?_append_right (by rw [hl]; omega), hl, show (i + 1) * 3 + 1 - 3 = i * 3 + 1 by omega]; exact ih.2.1
    · rw [List.getElem?_append_right (by rw [hl]; omega), hl, show (i + 1) * 3 + 2 - 3 = i * 3 + 2 by omega]; exact ih.2.2
theorem noI_v (h : Fc) : ∀ u ∈ h.v, NoI u := by
  intro u hu k z
  simp [Fc.v] at hu
  rcases hu with rfl | rfl | rfl <;> simp
theorem noI_cells (l : List Fc) : ∀ u ∈ fcCells l, NoI u := by
  intro u hu
  unfold fcCells at hu
  obtain ⟨h, _, hh⟩ := List.mem_flatMap.1 hu
  exact noI_v h u hh
abbrev zF : Value := .agg #[.bool false, .slice none 0 0, .slice none 0 0]
theorem noI_zero (n : Nat) : ∀ u ∈ (Builtin.zeroCells zF.cells n).toList, NoI u := by
  intro u hu k z
  unfold Builtin.zeroCells at hu
  simp only [Array.toList_map, List.mem_map] at hu
  obtain ⟨i, _, rfl⟩ := hu
  have h3 : i % 3 = 0 ∨ i % 3 = 1 ∨ i % 3 = 2 := by omega
  rcases h3 with h | h | h <;> simp [zF, Value.cells, h]
theorem zeroCells_size (n : Nat) : (Builtin.zeroCells zF.cells n).size = n * 3 := by simp [Builtin.zeroCells, zF, Value.cells]
/-- a row of fractions of one's own -/
def RowFc (w : World) (base : Nat) (e : TypeId) (v : Value) (xs : List Fc) : Prop :=
  (v = .slice none 0 0 ∧ xs = []) ∨
  ∃ g cap cs, v = .slice (some ⟨g, 0, none⟩) xs.length cap ∧ base ≤ g ∧ w.heap[g]? = some (.cells cs e (0, 0)) ∧ xs.length ≤ cap ∧ cap ≤ maxLen ∧ cs.size = cap * 3 ∧ cs.toList.take (xs.length * 3) = fcCells xs ∧ ∀ u ∈ cs.toList, NoI u
section
variable {w w' : World} {base : Nat} {e : TypeId} {v : Value} {xs : List Fc}
theorem RowFc.own (h : RowFc w base e v xs) : w.ownsRow base e 3 v xs.length (fcCells xs) := by
  refine ⟨fcCells_length xs, ?_⟩
  rcases h with ⟨rfl, rfl⟩ | ⟨g, cap, cs, rfl, hb, hg, h1, h2, h3, h4, _⟩
  · exact .inl ⟨rfl, rfl⟩
  · exact .inr ⟨g, cap, cs, rfl, hb, hg, h1, h2, h3, h4⟩
theorem RowFc.block (h : RowFc w base e v xs) {i : Nat} (hi : some i = v.ownBlock) : base ≤ i ∧ i < w.heap.size := ownsRow_block h.own hi
theorem RowFc.below (h : RowFc w base e v xs) (hb : Below w.heap.size w w') : RowFc w' base e v xs := by
  rcases h with h0 | ⟨g, cap, cs, hv, hg, hh, hr⟩
  · exact .inl h0
  · exact .inr ⟨g, cap, cs, hv, hg, (hb.block g (heap_lt hh)).trans hh, hr⟩
theorem RowFc.mono {base' : Nat} (h : RowFc w base e v xs) (hb : base' ≤ base) : RowFc w base' e v xs := by
  rcases h with h0 | ⟨g, cap, cs, hv, hg, hr⟩
  · exact .inl h0
  · exact .inr ⟨g, cap, cs, hv, Nat.le_trans hb hg, hr⟩
theorem RowFc.of_new (w : World) (base : Nat) (e : TypeId) (ys : List Fc) (cap n : Nat) (hb : base ≤ w.heap.size) (h1 : ys.length + n = cap) (h2 : cap ≤ maxLen) :
    RowFc (w.alloc (.cells ((fcCells ys).toArray ++ Builtin.zeroCells zF.cells n) e)) base e (.slice (some ⟨w.heap.size, 0, none⟩) ys.length cap) ys := by
  refine .inr ⟨w.heap.size, cap, _, rfl, hb, alloc_at _ _ _ rfl, by omega, h2, ?_, ?_, fun u hu => ?_⟩
  · rw [Array.size_append, zeroCells_size, List.size_toArray, fcCells_length]; omega
  · rw [Array.toList_append, List.toList_toArray, List.take_append_of_le_length (by rw [fcCells_length]; omega), List.take_of_length_le (by rw [fcCells_length]; omega)]
  · rw [Array.toList_append, List.toList_toArray, List.mem_append] at hu
    rcases hu with hu | hu
    · exact noI_cells ys u hu
    · exact noI_zero n u hu
theorem run_append_fc {P : Program} (w : World) (base : Nat) (t ty e : TypeId) (i : TypeInfo) (ht : P.underlying t = some (.slice e)) (hi : P.info? e = some i) (hz : i.zero = some zF)
    (hsize : i.size = 3) (hby : i.bytes ≤ 100) (v : Value) (xs : List Fc) (hown : RowFc w base e v xs) (ad : Addr) (y : Fc) (hnew : ∀ j u, y.v[j]? = some u → w.cell? (ad.add j) = some u) (h63 : xs.length ≤ 1000000) (hbase : base ≤ w.heap.size) :
    ∃ v' w', (Builtin.append_ #[t, t] ty #[v, .slice (some ad) 1 1]).run P w = .ok v' w' ∧ RowFc w' base e v' (xs ++ [y]) ∧ w.grownBy w' v.ownBlock := by
  have hml : ∀ old, grownCap w (xs.length + 1) old e ≤ maxLen := fun old => grownCap_le_maxLen w _ old e (by unfold maxLen; omega)
  have hge : ∀ old, xs.length + 1 ≤ grownCap w (xs.length + 1) old e := fun old => grownCap_ge w _ old e
  have hb := hown
  have hyl : y.v.length = 3 := rfl
  rcases hown with ⟨rfl, rfl⟩ | ⟨g, cap, cs, rfl, hbg, hg, hnc, hcm, hsz, htk, hno⟩
  · have hr := run_append_nil (P := P) w t ty e i zF ht hi hz ad 1 1 y.v (by rw [hsize]; rfl) hnew (by omega) (by omega) (by omega)
    refine ⟨_, _, hr, ?_, grown_new w _ _⟩
    have := RowFc.of_new w.drew base e [y] (grownCap w 1 0 e) (grownCap w 1 0 e - 1) hbase (by have := hge 0; simp at this ⊢; omega) (hml 0)
    simpa [fcCells] using this
  · by_cases hroom : xs.length + 1 ≤ cap
    · have hfit : xs.length * i.size + y.v.length ≤ cs.size := by rw [hsize, hyl, hsz]; omega
      have hr := run_append_room (P := P) w t ty e i ht hi g xs.length cap _ hg ad 1 1 y.v (by rw [hsize]; rfl) hnew (by simp [Value.oneCell', Fc.v]) hroom hfit
      refine ⟨_, _, hr, .inr ⟨g, cap, _, by simp, hbg, setRow_heap w g _ _ e _ hg, by simp; omega, hcm, ?_, ?_, ?_⟩, ⟨rfl, rfl, rfl, by simp, fun k _ hk => setRow_other w g k _ (fun e => hk (by simp [Value.ownBlock, e]))⟩⟩
      · simp only [List.size_toArray, List.length_append, List.length_take, List.length_drop, Array.length_toList, hsize, hyl, hsz]; omega
      · rw [hsize, htk, List.append_assoc, ← List.append_assoc, List.toList_toArray, fcCells_app]
        have hL : (fcCells xs ++ y.v).length = (xs ++ [y]).length * 3 := by rw [List.length_append, List.length_append, fcCells_length, hyl, List.length_singleton]; omega
        rw [List.take_append_of_le_length (Nat.le_of_eq hL.symm), List.take_of_length_le (Nat.le_of_eq hL)]
      · intro u hu
        rw [List.toList_toArray, List.mem_append, List.mem_append] at hu
        rcases hu with (hu | hu) | hu
        · exact hno u (List.mem_of_mem_take hu)
        · exact noI_v y u hu
        · exact hno u (List.mem_of_mem_drop hu)
    · have holds : ∀ j u, (fcCells xs)[j]? = some u → w.cell? ((⟨g, 0, none⟩ : Addr).add j) = some u := hb.own.cells (g := g) rfl
      have hr := run_append_grow (P := P) w t ty e i zF ht hi hz ⟨g, 0, none⟩ xs.length cap (fcCells xs) (by rw [fcCells_length, hsize]) holds ad 1 1 y.v (by rw [hsize]; rfl) hnew (by omega) (by omega) (growslice_fits (by omega) (by
        have := Nat.mul_le_mul_left (xs.length + 1) hby; omega))
      refine ⟨_, _, hr, ?_, grown_new w _ _⟩
      have := RowFc.of_new w.drew base e (xs ++ [y]) (grownCap w (xs.length + 1) cap e) (grownCap w (xs.length + 1) cap e - (xs.length + 1)) hbase (by have := hge cap; simp; omega) (hml cap)
      rw [fcCells_app] at this
      simpa using this
theorem wpList_append_fc {P : Program} {w : World} {ops : Array Oper} {rest : List Oper} {o : Oper} {a : Act} {Q : Exit → Act → World → Prop} (hgd : o.guard = none) (s x : Operand) (t : TypeId)
    (ho : o.op = .call { callee := .builtin .append, args := #[s, x], argTypes := #[t, t] })
    (base : Nat) (e : TypeId) (i : TypeInfo) (ht : P.underlying t = some (.slice e)) (hi : P.info? e = some i) (hz : i.zero = some zF)
    (hsize : i.size = 3) (hby : i.bytes ≤ 100) (v : Value) (xs : List Fc) (hs : a.eval s = v) (hown : RowFc w base e v xs)
    (ad : Addr) (y : Fc) (hx : a.eval x = .slice (some ad) 1 1) (hnew : ∀ j u, y.v[j]? = some u → w.cell? (ad.add j) = some u) (h63 : xs.length ≤ 1000000) (hbase : base ≤ w.heap.size)
    (h : ∀ v' w', RowFc w' base e v' (xs ++ [y]) → w.grownBy w' v.ownBlock → wpList P ops Q rest (a.put o.dst v') w') : wpList P ops Q (o :: rest) a w := by
  obtain ⟨v', w', hr, h2, h3⟩ := run_append_fc (P := P) w base t o.type e i ht hi hz hsize hby v xs hown ad y hnew h63 hbase
  refine wpList_plain hgd fun _ hK => ?_
  unfold Oper.wp execOp
  simp only [ho, resolve, invoke, builtin, Sem.run_bind, Sem.run_pure, Result.andThen_ok, List.map_toArray, List.map_cons, List.map_nil, hs, hx, hr]
  exact hK _ _ (h v' w' h2 h3)
/-- no number lies in the row's block -/
theorem RowFc.cells (hr : RowFc w base e v xs) {b j : Nat} {u : Value} (hv : v.ownBlock = some b) (hc : w.cell? ⟨b, j, none⟩ = some u) : NoI u := by
  rcases hr with ⟨rfl, _⟩ | ⟨g, cap, cs, rfl, _, hg, _, _, _, _, hno⟩
  · cases hv
  · simp only [Value.ownBlock, Option.some.injEq] at hv
    subst hv
    rw [cellsAt hg] at hc
    exact hno u (Array.mem_toList_iff.2 (Array.mem_of_getElem? hc))
theorem NatR.rowf {A : Option Addr} {c x : Nat} {l : List Nat} (h : NatR w A c l x) (hr : RowFc w base e v xs) (hg : w.grownBy w' v.ownBlock) : NatR w' A c l x := by
  refine ⟨⟨h.rd.1, fun hl => ?_⟩, h.norm, h.val, h.cap, h.max, h.nil⟩
  obtain ⟨b, o, e', h1, h2, hc⟩ := h.rd.2 hl
  refine ⟨b, o, e', h1, Nat.lt_of_lt_of_le h2 hg.size, fun j u hj => ?_⟩
  rw [← hc j u hj]
  refine World.cell?_of_block (hg.block b h2 (fun hb => ?_))
  have hu := hr.cells hb.symm (hc j u hj)
  unfold u64s at hj
  obtain ⟨d, _, rfl⟩ := List.mem_map.1 (List.mem_of_getElem? hj)
  exact hu _ _ rfl
end
/-- with its numbers -/
def RowFr (w : World) (base : Nat) (e : TypeId) (v : Value) (xs : List Fc) : Prop := RowFc w base e v xs ∧ ∀ h ∈ xs, NatR w h.A1 h.c1 h.l1 h.x ∧ NatR w h.A2 h.c2 h.l2 h.y
section
variable {w w' : World} {base : Nat} {e : TypeId} {v v' : Value} {xs : List Fc} {y : Fc}
theorem RowFr.nil : RowFr w base e (.slice none 0 0) [] := ⟨.inl ⟨rfl, rfl⟩, fun _ h => by cases h⟩
theorem RowFr.call (h : RowFr w base e v xs) (hb : Below w.heap.size w w') : RowFr w' base e v xs := ⟨h.1.below hb, fun y hy => ⟨(h.2 y hy).1.on hb, (h.2 y hy).2.on hb⟩⟩
theorem RowFr.app (h : RowFr w base e v xs) (hy : NatR w y.A1 y.c1 y.l1 y.x) (hy2 : NatR w y.A2 y.c2 y.l2 y.y) (h' : RowFc w' base e v' (xs ++ [y])) (hg : w.grownBy w' v.ownBlock) : RowFr w' base e v' (xs ++ [y]) := by
  refine ⟨h', fun z hz => ?_⟩
  rw [List.mem_append, List.mem_singleton] at hz
  rcases hz with hz | rfl
  · exact ⟨(h.2 z hz).1.rowf h.1 hg, (h.2 z hz).2.rowf h.1 hg⟩
  · exact ⟨hy.rowf h.1 hg, hy2.rowf h.1 hg⟩
/-- an element's cells -/
theorem RowFr.at {i : Nat} {h : Fc} (hr : RowFr w base e v xs) (hi : xs[i]? = some h) : ∃ g cap, v = .slice (some ⟨g, 0, none⟩) xs.length cap ∧ g < w.heap.size ∧ w.cell? ⟨g, i * 3, none⟩ = some (.bool false) ∧ w.cell? ⟨g, i * 3 + 1, none⟩ = some (.slice h.A1 h.l1.length h.c1) ∧ w.cell? ⟨g, i * 3 + 2, none⟩ = some (.slice h.A2 h.l2.length h.c2) ∧ NatR w h.A1 h.c1 h.l1 h.x ∧ NatR w h.A2 h.c2 h.l2 h.y := by
  have hn := hr.2 h (List.mem_of_getElem? hi)
  have hil := (List.getElem?_eq_some_iff.1 hi).1
  obtain ⟨a0, a1, a2⟩ := fcCells_at xs i h hi
  rcases hr.1 with ⟨_, rfl⟩ | ⟨g, cap, cs, rfl, _, hg, _, _, _, htk, _⟩
  · simp at hi
  · have hcell : ∀ j u, (fcCells xs)[j]? = some u → w.cell? ⟨g, j, none⟩ = some u := by
      intro j u hj
      have hjl := (List.getElem?_eq_some_iff.1 hj).1
      rw [fcCells_length] at hjl
      rw [← htk, List.getElem?_take_of_lt hjl, Array.getElem?_toList] at hj
      rw [cellsAt hg]; exact hj
    exact ⟨g, cap, rfl, heap_lt hg, hcell _ _ a0, hcell _ _ a1, hcell _ _ a2, hn.1, hn.2⟩
end
end Go.Proofs.YtlkjgjojahjapaaGreatDoor

/- Erlang's formulas: plain. -/
namespace Go.Proofs.YtlkjgjojahjapaaGreatDoor
open Go

def m8 : Nat → Nat
  | 0 => 1
  | c + 1 => 100000000 * m8 c
end Go.Proofs.YtlkjgjojahjapaaGreatDoor

/- Erlang's formulas: sizes, codes, values. Plain. -/
namespace Go.Proofs.YtlkjgjojahjapaaGreatDoor
open Go

end Go.Proofs.YtlkjgjojahjapaaGreatDoor

/- Erlang's formulas: what Blocked, Waiting and Servers tell. Plain. -/
namespace Go.Proofs.YtlkjgjojahjapaaGreatDoor
open Go

theorem ordQ_lt {p q : Rat} : ordQ p q < 0 ↔ p < q := by
  unfold ordQ
  split
  · rename_i h; simp [h]
  · rename_i h
    split
    · rename_i h2; subst h2; simp
    · simp; exact h
end Go.Proofs.YtlkjgjojahjapaaGreatDoor
