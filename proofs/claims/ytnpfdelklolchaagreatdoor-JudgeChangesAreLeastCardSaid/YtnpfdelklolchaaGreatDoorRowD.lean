/- Rows of divisions in memory ([]division, a number and a list of places each): no cell of such a row is an integer, so no number and no list lies in the row's own block. -/
import Derived.Test.YtnpfdelklolchaaGreatDoorG37
namespace Go.Proofs.YtnpfdelklolchaaGreatDoor
open Go Go.RowKit Go.Proofs

/-- two cells that are a division -/
structure Dv where
  A1 : Option Addr
  c1 : Nat
  l1 : List Nat
  x : Nat
  A2 : Option Addr
  c2 : Nat
  zs : List Nat
def Dv.v (h : Dv) : List Value := [.slice h.A1 h.l1.length h.c1, .slice h.A2 h.zs.length h.c2]
def Dv.k (h : Dv) : Nat × List Nat := (h.x, h.zs)
/-- places as integers -/
def nInts (zs : List Nat) : List Value := zs.map fun z : Nat => .int .i64 (z : Int)
/-- a list of places -/
def PlR (w : World) (A : Option Addr) (c : Nat) (zs : List Nat) : Prop := Rd w 0 w.heap.size 1 A zs.length (nInts zs) ∧ (A = none → zs = [] ∧ c = 0) ∧ (zs = [] → A = none)
theorem PlR.on {w w' : World} {A : Option Addr} {c : Nat} {zs : List Nat} (h : PlR w A c zs) (hb : Below w.heap.size w w') : PlR w' A c zs := ⟨(h.1.below hb (Nat.le_refl _)).more (Nat.le_refl _) hb.size, h.2⟩
theorem PlR.nil (w : World) : PlR w none 0 [] := ⟨⟨rfl, fun h => absurd h (by simp)⟩, fun _ => ⟨rfl, rfl⟩, fun _ => rfl⟩
def dvCells (l : List Dv) : List Value := l.flatMap (·.v)
theorem dvCells_length : ∀ l : List Dv, (dvCells l).length = l.length * 2
  | [] => rfl
  | h :: l => by
    have := dvCells_length l
    unfold dvCells at *
    rw [List.flatMap_cons, List.length_append, this, List.length_cons]
    simp [Dv.v]; omega
theorem dvCells_app (l : List Dv) (h : Dv) : dvCells (l ++ [h]) = dvCells l ++ h.v := by simp [dvCells]
theorem dvCells_at : ∀ (l : List Dv) (i : Nat) (h : Dv), l[i]? = some h → (dvCells l)[i * 2]? = some (.slice h.A1 h.l1.length h.c1) ∧ (dvCells l)[i * 2 + 1]? = some (.slice h.A2 h.zs.length h.c2)
  | [], i, h, e => by simp at e
  | g :: l, 0, h, e => by
    simp at e; subst e
    simp [dvCells, Dv.v]
  | g :: l, i + 1, h, e => by
    have ih := dvCells_at l i h (by simpa using e)
    have hc : dvCells (g :: l) = g.v ++ dvCells l := by simp [dvCells]
    have hl : g.v.length = 2 := rfl
    rw [hc]
    refine ⟨?_, ?_⟩
    · rw [List.getElem?_append_right (by rw [hl]; omega), hl, show (i + 1) * 2 - 2 = i * 2 by omega]; exact ih.1
    · rw [List.getElem?_append_right (by rw [hl]; omega), hl, show (i + 1) * 2 + 1 - 2 = i * 2 + 1 by omega]; exact ih.2
theorem noI_vD (h : Dv) : ∀ u ∈ h.v, NoI u := by
  intro u hu k z
  simp [Dv.v] at hu
  rcases hu with rfl | rfl <;> simp
theorem noI_cellsD (l : List Dv) : ∀ u ∈ dvCells l, NoI u := by
  intro u hu
  unfold dvCells at hu
  obtain ⟨h, _, hh⟩ := List.mem_flatMap.1 hu
  exact noI_vD h u hh
abbrev zD : Value := .agg #[.slice none 0 0, .slice none 0 0]
theorem noI_zeroD (n : Nat) : ∀ u ∈ (Builtin.zeroCells zD.cells n).toList, NoI u := by
  intro u hu k z
  unfold Builtin.zeroCells at hu
  simp only [Array.toList_map, List.mem_map] at hu
  obtain ⟨i, _, rfl⟩ := hu
  have h3 : i % 2 = 0 ∨ i % 2 = 1 := by omega
  rcases h3 with h | h <;> simp [Value.cells, h]
theorem zeroCellsD_size (n : Nat) : (Builtin.zeroCells zD.cells n).size = n * 2 := by simp [Builtin.zeroCells, Value.cells]
/-- a row of fractions of one's own -/
def RowDc (w : World) (base : Nat) (e : TypeId) (v : Value) (xs : List Dv) : Prop :=
  (v = .slice none 0 0 ∧ xs = []) ∨
  ∃ g cap cs, v = .slice (some ⟨g, 0, none⟩) xs.length cap ∧ base ≤ g ∧ w.heap[g]? = some (.cells cs e (0, 0)) ∧ xs.length ≤ cap ∧ cap ≤ maxLen ∧ cs.size = cap * 2 ∧ cs.toList.take (xs.length * 2) = dvCells xs ∧ ∀ u ∈ cs.toList, NoI u
section
variable {w w' : World} {base : Nat} {e : TypeId} {v : Value} {xs : List Dv}
theorem RowDc.own (h : RowDc w base e v xs) : w.ownsRow base e 2 v xs.length (dvCells xs) := by
  refine ⟨dvCells_length xs, ?_⟩
  rcases h with ⟨rfl, rfl⟩ | ⟨g, cap, cs, rfl, hb, hg, h1, h2, h3, h4, _⟩
  · exact .inl ⟨rfl, rfl⟩
  · exact .inr ⟨g, cap, cs, rfl, hb, hg, h1, h2, h3, h4⟩
theorem RowDc.block (h : RowDc w base e v xs) {i : Nat} (hi : some i = v.ownBlock) : base ≤ i ∧ i < w.heap.size := ownsRow_block h.own hi
theorem RowDc.below (h : RowDc w base e v xs) (hb : Below w.heap.size w w') : RowDc w' base e v xs := by
  rcases h with h0 | ⟨g, cap, cs, hv, hg, hh, hr⟩
  · exact .inl h0
  · exact .inr ⟨g, cap, cs, hv, hg, (hb.block g (heap_lt hh)).trans hh, hr⟩
theorem RowDc.mono {base' : Nat} (h : RowDc w base e v xs) (hb : base' ≤ base) : RowDc w base' e v xs := by
  rcases h with h0 | ⟨g, cap, cs, hv, hg, hr⟩
  · exact .inl h0
  · exact .inr ⟨g, cap, cs, hv, Nat.le_trans hb hg, hr⟩
theorem RowDc.of_new (w : World) (base : Nat) (e : TypeId) (ys : List Dv) (cap n : Nat) (hb : base ≤ w.heap.size) (h1 : ys.length + n = cap) (h2 : cap ≤ maxLen) :
    RowDc (w.alloc (.cells ((dvCells ys).toArray ++ Builtin.zeroCells zD.cells n) e)) base e (.slice (some ⟨w.heap.size, 0, none⟩) ys.length cap) ys := by
  refine .inr ⟨w.heap.size, cap, _, rfl, hb, alloc_at _ _ _ rfl, by omega, h2, ?_, ?_, fun u hu => ?_⟩
  · rw [Array.size_append, zeroCellsD_size, List.size_toArray, dvCells_length]; omega
  · rw [Array.toList_append, List.toList_toArray, List.take_append_of_le_length (by rw [dvCells_length]; omega), List.take_of_length_le (by rw [dvCells_length]; omega)]
  · rw [Array.toList_append, List.toList_toArray, List.mem_append] at hu
    rcases hu with hu | hu
    · exact noI_cellsD ys u hu
    · exact noI_zeroD n u hu
theorem run_append_dv {P : Program} (w : World) (base : Nat) (t ty e : TypeId) (i : TypeInfo) (ht : P.underlying t = some (.slice e)) (hi : P.info? e = some i) (hz : i.zero = some zD)
    (hsize : i.size = 2) (hby : i.bytes ≤ 100) (v : Value) (xs : List Dv) (hown : RowDc w base e v xs) (ad : Addr) (y : Dv) (hnew : ∀ j u, y.v[j]? = some u → w.cell? (ad.add j) = some u) (h63 : xs.length ≤ 1000000) (hbase : base ≤ w.heap.size) :
    ∃ v' w', (Builtin.append_ #[t, t] ty #[v, .slice (some ad) 1 1]).run P w = .ok v' w' ∧ RowDc w' base e v' (xs ++ [y]) ∧ w.grownBy w' v.ownBlock := by
  have hml : ∀ old, grownCap w (xs.length + 1) old e ≤ maxLen := fun old => grownCap_le_maxLen w _ old e (by unfold maxLen; omega)
  have hge : ∀ old, xs.length + 1 ≤ grownCap w (xs.length + 1) old e := fun old => grownCap_ge w _ old e
  have hb := hown
  have hyl : y.v.length = 2 := rfl
  rcases hown with ⟨rfl, rfl⟩ | ⟨g, cap, cs, rfl, hbg, hg, hnc, hcm, hsz, htk, hno⟩
  · have hr := run_append_nil (P := P) w t ty e i zD ht hi hz ad 1 1 y.v (by rw [hsize]; rfl) hnew (by omega) (by omega) (by omega)
    refine ⟨_, _, hr, ?_, grown_new w _ _⟩
    have := RowDc.of_new w.drew base e [y] (grownCap w 1 0 e) (grownCap w 1 0 e - 1) hbase (by have := hge 0; simp at this ⊢; omega) (hml 0)
    simpa [dvCells] using this
  · by_cases hroom : xs.length + 1 ≤ cap
    · have hfit : xs.length * i.size + y.v.length ≤ cs.size := by rw [hsize, hyl, hsz]; omega
      have hr := run_append_room (P := P) w t ty e i ht hi g xs.length cap _ hg ad 1 1 y.v (by rw [hsize]; rfl) hnew (by simp [Value.oneCell', Dv.v]) hroom hfit
      refine ⟨_, _, hr, .inr ⟨g, cap, _, by simp, hbg, setRow_heap w g _ _ e _ hg, by simp; omega, hcm, ?_, ?_, ?_⟩, ⟨rfl, rfl, rfl, by simp, fun k _ hk => setRow_other w g k _ (fun e => hk (by simp [Value.ownBlock, e]))⟩⟩
      · simp only [List.size_toArray, List.length_append, List.length_take, List.length_drop, Array.length_toList, hsize, hyl, hsz]; omega
      · rw [hsize, htk, List.append_assoc, ← List.append_assoc, List.toList_toArray, dvCells_app]
        have hL : (dvCells xs ++ y.v).length = (xs ++ [y]).length * 2 := by rw [List.length_append, List.length_append, dvCells_length, hyl, List.length_singleton]; omega
        rw [List.take_append_of_le_length (Nat.le_of_eq hL.symm), List.take_of_length_le (Nat.le_of_eq hL)]
      · intro u hu
        rw [List.toList_toArray, List.mem_append, List.mem_append] at hu
        rcases hu with (hu | hu) | hu
        · exact hno u (List.mem_of_mem_take hu)
        · exact noI_vD y u hu
        · exact hno u (List.mem_of_mem_drop hu)
    · have holds : ∀ j u, (dvCells xs)[j]? = some u → w.cell? ((⟨g, 0, none⟩ : Addr).add j) = some u := hb.own.cells (g := g) rfl
      have hr := run_append_grow (P := P) w t ty e i zD ht hi hz ⟨g, 0, none⟩ xs.length cap (dvCells xs) (by rw [dvCells_length, hsize]) holds ad 1 1 y.v (by rw [hsize]; rfl) hnew (by omega) (by omega) (growslice_fits (by omega) (by
        have := Nat.mul_le_mul_left (xs.length + 1) hby; omega))
      refine ⟨_, _, hr, ?_, grown_new w _ _⟩
      have := RowDc.of_new w.drew base e (xs ++ [y]) (grownCap w (xs.length + 1) cap e) (grownCap w (xs.length + 1) cap e - (xs.length + 1)) hbase (by have := hge cap; simp; omega) (hml cap)
      rw [dvCells_app] at this
      simpa using this
theorem wpList_append_dv {P : Program} {w : World} {ops : Array Oper} {rest : List Oper} {o : Oper} {a : Act} {Q : Exit → Act → World → Prop} (hgd : o.guard = none) (s x : Operand) (t : TypeId)
    (ho : o.op = .call { callee := .builtin .append, args := #[s, x], argTypes := #[t, t] })
    (base : Nat) (e : TypeId) (i : TypeInfo) (ht : P.underlying t = some (.slice e)) (hi : P.info? e = some i) (hz : i.zero = some zD)
    (hsize : i.size = 2) (hby : i.bytes ≤ 100) (v : Value) (xs : List Dv) (hs : a.eval s = v) (hown : RowDc w base e v xs)
    (ad : Addr) (y : Dv) (hx : a.eval x = .slice (some ad) 1 1) (hnew : ∀ j u, y.v[j]? = some u → w.cell? (ad.add j) = some u) (h63 : xs.length ≤ 1000000) (hbase : base ≤ w.heap.size)
    (h : ∀ v' w', RowDc w' base e v' (xs ++ [y]) → w.grownBy w' v.ownBlock → wpList P ops Q rest (a.put o.dst v') w') : wpList P ops Q (o :: rest) a w := by
  obtain ⟨v', w', hr, h2, h3⟩ := run_append_dv (P := P) w base t o.type e i ht hi hz hsize hby v xs hown ad y hnew h63 hbase
  refine wpList_plain hgd fun _ hK => ?_
  unfold Oper.wp execOp
  simp only [ho, resolve, invoke, builtin, Sem.run_bind, Sem.run_pure, Result.andThen_ok, List.map_toArray, List.map_cons, List.map_nil, hs, hx, hr]
  exact hK _ _ (h v' w' h2 h3)
/-- no number lies in the row's block -/
theorem RowDc.cells (hr : RowDc w base e v xs) {b j : Nat} {u : Value} (hv : v.ownBlock = some b) (hc : w.cell? ⟨b, j, none⟩ = some u) : NoI u := by
  rcases hr with ⟨rfl, _⟩ | ⟨g, cap, cs, rfl, _, hg, _, _, _, _, hno⟩
  · cases hv
  · simp only [Value.ownBlock, Option.some.injEq] at hv
    subst hv
    rw [cellsAt hg] at hc
    exact hno u (Array.mem_toList_iff.2 (Array.mem_of_getElem? hc))
theorem NatR.rowd {A : Option Addr} {c x : Nat} {l : List Nat} (h : NatR w A c l x) (hr : RowDc w base e v xs) (hg : w.grownBy w' v.ownBlock) : NatR w' A c l x := by
  refine ⟨⟨h.rd.1, fun hl => ?_⟩, h.norm, h.val, h.cap, h.max, h.nil⟩
  obtain ⟨b, o, e', h1, h2, hc⟩ := h.rd.2 hl
  refine ⟨b, o, e', h1, Nat.lt_of_lt_of_le h2 hg.size, fun j u hj => ?_⟩
  rw [← hc j u hj]
  refine World.cell?_of_block (hg.block b h2 (fun hb => ?_))
  have hu := hr.cells hb.symm (hc j u hj)
  unfold u64s at hj
  obtain ⟨d, _, rfl⟩ := List.mem_map.1 (List.mem_of_getElem? hj)
  exact hu _ _ rfl
theorem PlR.rowd {A : Option Addr} {c : Nat} {zs : List Nat} (h : PlR w A c zs) (hr : RowDc w base e v xs) (hg : w.grownBy w' v.ownBlock) : PlR w' A c zs := by
  refine ⟨⟨h.1.1, fun hl => ?_⟩, h.2⟩
  obtain ⟨b, o, e', h1, h2, hc⟩ := h.1.2 hl
  refine ⟨b, o, e', h1, Nat.lt_of_lt_of_le h2 hg.size, fun j u hj => ?_⟩
  rw [← hc j u hj]
  refine World.cell?_of_block (hg.block b h2 (fun hb => ?_))
  have hu := hr.cells hb.symm (hc j u hj)
  unfold nInts at hj
  obtain ⟨d, _, rfl⟩ := List.mem_map.1 (List.mem_of_getElem? hj)
  exact hu _ _ rfl
end
/-- with its numbers and lists -/
def DvR (w : World) (h : Dv) : Prop := NatR w h.A1 h.c1 h.l1 h.x ∧ PlR w h.A2 h.c2 h.zs
theorem DvR.on {w w' : World} {h : Dv} (hd : DvR w h) (hb : Below w.heap.size w w') : DvR w' h := ⟨hd.1.on hb, hd.2.on hb⟩
def RowDr (w : World) (base : Nat) (e : TypeId) (v : Value) (xs : List Dv) : Prop := RowDc w base e v xs ∧ ∀ h ∈ xs, DvR w h
section
variable {w w' : World} {base : Nat} {e : TypeId} {v v' : Value} {xs : List Dv} {y : Dv}
theorem RowDr.call (h : RowDr w base e v xs) (hb : Below w.heap.size w w') : RowDr w' base e v xs := ⟨h.1.below hb, fun y hy => (h.2 y hy).on hb⟩
theorem RowDr.app (h : RowDr w base e v xs) (hy : DvR w y) (h' : RowDc w' base e v' (xs ++ [y])) (hg : w.grownBy w' v.ownBlock) : RowDr w' base e v' (xs ++ [y]) := by
  refine ⟨h', fun z hz => ?_⟩
  rw [List.mem_append, List.mem_singleton] at hz
  rcases hz with hz | rfl
  · exact ⟨(h.2 z hz).1.rowd h.1 hg, (h.2 z hz).2.rowd h.1 hg⟩
  · exact ⟨hy.1.rowd h.1 hg, hy.2.rowd h.1 hg⟩
/-- the row as it is made: one division, of nothing -/
theorem RowDr.one (hn : NatR w none 0 [] 0) (hb : base ≤ w.heap.size) : RowDr (w.alloc (.cells #[.slice none 0 0, .slice none 0 0] e)) base e (.slice (some ⟨w.heap.size, 0, none⟩) 1 1) [⟨none, 0, [], 0, none, 0, []⟩] := by
  have h := RowDc.of_new w base e [⟨none, 0, [], 0, none, 0, []⟩] 1 0 hb rfl (by unfold maxLen; omega)
  have e1 : ((dvCells [⟨none, 0, [], 0, none, 0, []⟩]).toArray ++ Builtin.zeroCells zD.cells 0) = #[.slice none 0 0, .slice none 0 0] := by simp [dvCells, Dv.v, Builtin.zeroCells]
  rw [e1] at h
  refine ⟨h, fun y hy => ?_⟩
  rw [List.mem_singleton] at hy
  subst hy
  exact ⟨hn.on ((Below.refl _ w).alloc (Nat.le_refl _) _), PlR.nil _⟩
/-- an element's cells -/
theorem RowDr.at {i : Nat} {h : Dv} (hr : RowDr w base e v xs) (hi : xs[i]? = some h) : ∃ g cap, v = .slice (some ⟨g, 0, none⟩) xs.length cap ∧ g < w.heap.size ∧ w.cell? ⟨g, i * 2, none⟩ = some (.slice h.A1 h.l1.length h.c1) ∧ w.cell? ⟨g, i * 2 + 1, none⟩ = some (.slice h.A2 h.zs.length h.c2) ∧ DvR w h := by
  have hn := hr.2 h (List.mem_of_getElem? hi)
  obtain ⟨a0, a1⟩ := dvCells_at xs i h hi
  rcases hr.1 with ⟨_, rfl⟩ | ⟨g, cap, cs, rfl, _, hg, _, _, _, htk, _⟩
  · simp at hi
  · have hcell : ∀ j u, (dvCells xs)[j]? = some u → w.cell? ⟨g, j, none⟩ = some u := by
      intro j u hj
      have hjl := (List.getElem?_eq_some_iff.1 hj).1
      rw [dvCells_length] at hjl
      rw [← htk, List.getElem?_take_of_lt hjl, Array.getElem?_toList] at hj
      rw [cellsAt hg]; exact hj
    exact ⟨g, cap, rfl, heap_lt hg, hcell _ _ a0, hcell _ _ a1, hn⟩
end
/-- a variable that holds a division -/
def DvB (w : World) (b : Nat) (T : TypeId) (h : Dv) : Prop := w.heap[b]? = some (.cells h.v.toArray T (0, 0)) ∧ DvR w h
section
variable {w w' : World} {b : Nat} {T : TypeId} {h y : Dv}
theorem DvB.lt (hd : DvB w b T h) : b < w.heap.size := heap_lt hd.1
theorem DvB.on (hd : DvB w b T h) (hb : Below w.heap.size w w') : DvB w' b T h := ⟨(hb.block b hd.lt).trans hd.1, hd.2.on hb⟩
theorem DvB.cells (hd : DvB w b T h) : w.cell? ⟨b, 0, none⟩ = some (.slice h.A1 h.l1.length h.c1) ∧ w.cell? ⟨b, 1, none⟩ = some (.slice h.A2 h.zs.length h.c2) ∧ w.frozen? ⟨b, 0, none⟩ = false ∧ w.frozen? ⟨b, 1, none⟩ = false := by
  refine ⟨?_, ?_, frozenAt hd.1 0, frozenAt hd.1 1⟩
  · rw [cellsAt hd.1]; rfl
  · rw [cellsAt hd.1]; rfl
/-- what lies in such a variable is no number -/
theorem DvB.noI (hd : DvB w b T h) {j : Nat} {u : Value} (hc : w.cell? ⟨b, j, none⟩ = some u) : NoI u := by
  rw [cellsAt hd.1] at hc
  exact noI_vD h u (by simpa using List.mem_of_getElem? (by simpa using hc))
theorem DvR.frB (hy : DvR w y) (hd : DvB w b T h) (hf : Fr (fun i => i = b) w w') : DvR w' y := by
  refine ⟨hy.1.keepB hf.size fun b' o e hb hl => hf.block b' hb (fun hbb => ?_), ⟨hy.2.1.1, fun hl => ?_⟩, hy.2.2⟩
  · subst hbb
    obtain ⟨b2, o2, e2, _, _, hc⟩ := hy.1.rd.2 hl
    rw [e] at e2
    simp only [Option.some.injEq, Addr.mk.injEq, and_true] at e2
    obtain ⟨rfl, rfl⟩ := e2
    have hu : (u64s y.l1)[0]? = some ((u64s y.l1)[0]'(by rw [u64s_length]; exact hl)) := List.getElem?_eq_getElem _
    obtain ⟨d, _, hd2⟩ := u64s_get hu
    exact hd.noI (hc 0 _ hu) _ _ hd2
  · obtain ⟨b2, o2, e2, h1, h2, hc⟩ := hy.2.1.2 hl
    refine ⟨b2, o2, e2, h1, Nat.lt_of_lt_of_le h2 hf.size, fun j u hj => ?_⟩
    rw [← hc j u hj]
    refine World.cell?_of_block (hf.block b2 h2 (fun hbb => ?_))
    subst hbb
    have hj2 := hj
    unfold nInts at hj2
    obtain ⟨d, _, rfl⟩ := List.mem_map.1 (List.mem_of_getElem? hj2)
    exact hd.noI (hc j _ hj) _ _ rfl
end
end Go.Proofs.YtnpfdelklolchaaGreatDoor
