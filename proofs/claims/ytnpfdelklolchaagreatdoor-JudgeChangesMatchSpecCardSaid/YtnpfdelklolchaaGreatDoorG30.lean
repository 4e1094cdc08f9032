import Derived.Test.YtnpfdelklolchaaGreatDoorG29
/- Rows of divisions in memory ([]division, a number and a list of places each): no cell of such a row is an integer, so no number and no list lies in the row's own block. -/
namespace Go.Proofs.YtnpfdelklolchaaGreatDoor
open Go Go.RowKit Go.Proofs

/-- two cells that are a division -/
structure Dv where
  A1 : Option Addr
  c1 : Nat
  l1 : List Nat
  x : Nat
  A2 : Option Addr
  c2 : Nat
  zs : List Nat
def Dv.v (h : Dv) : List Value := [.slice h.A1 h.l1.length h.c1, .slice h.A2 h.zs.length h.c2]
def Dv.k (h : Dv) : Nat × List Nat := (h.x, h.zs)
/-- places as integers -/
def nInts (zs : List Nat) : List Value := zs.map fun z : Nat => .int .i64 (z : Int)
theorem nInts_length (zs : List Nat) : (nInts zs).length = zs.length := by simp [nInts]
/-- a list of places -/
def PlR (w : World) (A : Option Addr) (c : Nat) (zs : List Nat) : Prop := Rd w 0 w.heap.size 1 A zs.length (nInts zs) ∧ (A = none → zs = [] ∧ c = 0) ∧ (zs = [] → A = none)
theorem PlR.on {w w' : World} {A : Option Addr} {c : Nat} {zs : List Nat} (h : PlR w A c zs) (hb : Below w.heap.size w w') : PlR w' A c zs := ⟨(h.1.below hb (Nat.le_refl _)).more (Nat.le_refl _) hb.size, h.2⟩
theorem PlR.nil (w : World) : PlR w none 0 [] := ⟨⟨rfl, fun h => absurd h (by simp)⟩, fun _ => ⟨rfl, rfl⟩, fun _ => rfl⟩
def dvCells (l : List Dv) : List Value := l.flatMap (·.v)
theorem dvCells_length : ∀ l : List Dv, (dvCells l).length = l.length * 2
  | [] => rfl
  | h :: l => by
    have := dvCells_length l
    unfold dvCells at *
    rw [List.flatMap_cons, List.length_append, this, List.length_cons]
    simp [Dv.v]; omega
theorem dvCells_app (l : List Dv) (h : Dv) : dvCells (l ++ [h]) = dvCells l ++ h.v := by simp [dvCells]
theorem dvCells_at : ∀ (l : List Dv) (i : Nat) (h : Dv), l[i]? = some h → (dvCells l)[i * 2]? = some (.slice h.A1 h.l1.length h.c1) ∧ (dvCells l)[i * 2 + 1]? = some (.slice h.A2 h.zs.length h.c2)
  | [], i, h, e => by simp at e
  | g :: l, 0, h, e => by
    simp at e; subst e
    simp [dvCells, Dv.v]
  | g :: l, i + 1, h, e => by
    have ih := dvCells_at l i h (by simpa using e)
    have hc : dvCells (g :: l) = g.v ++ dvCells l := by simp [dvCells]
    have hl : g.v.length = 2 := rfl
    rw [hc]
    refine ⟨?_, ?_⟩
    · rw [List.getElem?_append_right (by rw [hl]; omega), hl, show (i + 1) * 2 - 2 = i * 2 by omega]; exact ih.1
    · rw [List.getElem?_append_right (by rw [hl]; omega), hl, show (i + 1) * 2 + 1 - 2 = i * 2 + 1 by omega]; exact ih.2
theorem noI_vD (h : Dv) : ∀ u ∈ h.v, NoI u := by
  intro u hu k z
  simp [Dv.v] at hu
  rcases hu with rfl | rfl <;> simp
theorem noI_cellsD (l : List Dv) : ∀ u ∈ dvCells l, NoI u := by
  intro u hu
  unfold dvCells at hu
  obtain ⟨h, _, hh⟩ := List.mem_flatMap.1 hu
  exact noI_vD h u hh
abbrev zD : Value := .agg #[.slice none 0 0, .slice none 0 0]
theorem noI_zeroD (n : Nat) : ∀ u ∈ (Builtin.zeroCells zD.cells n).toList, NoI u := by
  intro u hu k z
  unfold Builtin.zeroCells at hu
  simp only [Array.toList_map, List.mem_map] at hu
  obtain ⟨i, _, rfl⟩ := hu
  have h3 : i % 2 = 0 ∨ i % 2 = 1 := by omega
  rcases h3 with h | h <;> simp [Value.cells, h]
theorem zeroCellsD_size (n : Nat) : (Builtin.zeroCells zD.cells n).size = n * 2 := by simp [Builtin.zeroCells, Value.cells]
/-- a row of fractions of one's own -/
def RowDc (w : World) (base : Nat) (e : TypeId) (v : Value) (xs : List Dv) : Prop :=
  (v = .slice none 0 0 ∧ xs = []) ∨
  ∃ g cap cs, v = .slice (some ⟨g, 0, none⟩) xs.length cap ∧ base ≤ g ∧ w.heap[g]? = some (.cells cs e (0, 0)) ∧ xs.length ≤ cap ∧ cap ≤ maxLen ∧ cs.size = cap * 2 ∧ cs.toList.take (xs.length * 2) = dvCells xs ∧ ∀ u ∈ cs.toList, NoI u
section
variable {w w' : World} {base : Nat} {e : TypeId} {v : Value} {xs : List Dv}
theorem RowDc.own (h : RowDc w base e v xs) : w.ownsRow base e 2 v xs.length (dvCells xs) := by
  refine ⟨dvCells_length xs, ?_⟩
  rcases h with ⟨rfl, rfl⟩ | ⟨g, cap, cs, rfl, hb, hg, h1, h2, h3, h4, _⟩
  · exact .inl ⟨rfl, rfl⟩
  · exact .inr ⟨g, cap, cs, rfl, hb, hg, h1, h2, h3, h4⟩
theorem RowDc.block (h : RowDc w base e v xs) {i : Nat} (hi : some i = v.ownBlock) : base ≤ i ∧ i < w.heap.size := ownsRow_block h.own hi
theorem RowDc.below (h : RowDc w base e v xs) (hb : Below w.heap.size w w') : RowDc w' base e v xs := by
  rcases h with h0 | ⟨g, cap, cs, hv, hg, hh, hr⟩
  · exact .inl h0
  · exact .inr ⟨g, cap, cs, hv, hg, (hb.block g (heap_lt hh)).trans hh, hr⟩
theorem RowDc.mono {base' : Nat} (h : RowDc w base e v xs) (hb : base' ≤ base) : RowDc w base' e v xs := by
  rcases h with h0 | ⟨g, cap, cs, hv, hg, hr⟩
  · exact .inl h0
  · exact .inr ⟨g, cap, cs, hv, Nat.le_trans hb hg, hr⟩
theorem RowDc.of_new (w : World) (base : Nat) (e : TypeId) (ys : List Dv) (cap n : Nat) (hb : base ≤ w.heap.size) (h1 : ys.length + n = cap) (h2 : cap ≤ maxLen) :
    RowDc (w.alloc (.cells ((dvCells ys).toArray ++ Builtin.zeroCells zD.cells n) e)) base e (.slice (some ⟨w.heap.size, 0, none⟩) ys.length cap) ys := by
  refine .inr ⟨w.heap.size, cap, _, rfl, hb, alloc_at _ _ _ rfl, by omega, h2, ?_, ?_, fun u hu => ?_⟩
  · rw [Array.size_append, zeroCellsD_size, List.size_toArray, dvCells_length]; omega
  · rw [Array.toList_append, List.toList_toArray, List.take_append_of_le_length (by rw [dvCells_length]; omega), List.take_of_length_le (by rw [dvCells_length]; omega)]
  · rw [Array.toList_append, List.toList_toArray, List.mem_append] at hu
    rcases hu with hu | hu
    · exact noI_cellsD ys u hu
    · exact noI_zeroD n u hu
theorem run_append_dv {P : Program} (w : World) (base : Nat) (t ty e : TypeId) (i : TypeInfo) (ht : P.underlying t = some (.slice e)) (hi : P.info? e = some i) (hz : i.zero = some zD)
    (hsize : i.size = 2) (hby : i.bytes ≤ 100) (v : Value) (xs : List Dv) (hown : RowDc w base e v xs) (ad : Addr) (y : Dv) (hnew : ∀ j u, y.v[j]? = some u → w.cell? (ad.add j) = some u) (h63 : xs.length ≤ 1000000) (hbase : base ≤ w.heap.size) :
    ∃ v' w', (Builtin.append_ #[t, t] ty #[v, .slice (some ad) 1 1]).run P w = .ok v' w' ∧ RowDc w' base e v' (xs ++ [y]) ∧ w.grownBy w' v.ownBlock := by
  have hml : ∀ old, grownCap w (xs.length + 1) old e ≤ maxLen := fun old => grownCap_le_maxLen w _ old e (by unfold maxLen; omega)
  have hge : ∀ old, xs.length + 1 ≤ grownCap w (xs.length + 1) old e := fun old => grownCap_ge w _ old e
  have hb := hown
  have hyl : y.v.length = 2 := rfl
  rcases hown with ⟨rfl, rfl⟩ | ⟨g, cap, cs, rfl, hbg, hg, hnc, hcm, hsz, htk, hno⟩
  · have hr := run_append_nil (P := P) w t ty e i zD ht hi hz ad 1 1 y.v (by rw [hsize]; rfl) hnew (by omega) (by omega) (by omega)
    refine ⟨_, _, hr, ?_, grown_new w _ _⟩
    have := RowDc.of_new w.drew base e [y] (grownCap w 1 0 e) (grownCap w 1 0 e - 1) hbase (by have := hge 0; simp at this ⊢; omega) (hml 0)
    simpa [dvCells] using this
  · by_cases hroom : xs.length + 1 ≤ cap
    · have hfit : xs.length * i.size + y.v.length ≤ cs.size := by rw [hsize, hyl, hsz]; omega
      have hr := run_append_room (P := P) w t ty e i ht hi g xs.length cap _ hg ad 1 1 y.v (by rw [hsize]; rfl) hnew (by simp [Value.oneCell', Dv.v]) hroom hfit
      refine ⟨_, _, hr, .inr ⟨g, cap, _, by simp, hbg, setRow_heap w g _ _ e _ hg, by simp; omega, hcm, ?_, ?_, ?_⟩, ⟨rfl, rfl, rfl, by simp, fun k _ hk => setRow_other w g k _ (fun e => hk (by simp [Value.ownBlock, e]))⟩⟩
      · simp only [List.size_toArray, List.length_append, List.length_take, List.length_drop, Array.length_toList, hsize, hyl, hsz]; omega
      · rw [hsize, htk, List.append_assoc, ← List.append_assoc, List.toList_toArray, dvCells_app]
        have hL : (dvCells xs ++ y.v).length = (xs ++ [y]).length * 2 := by rw [List.length_append, List.length_append, dvCells_length, hyl, List.length_singleton]; omega
        rw [List.take_append_of_le_length (Nat.le_of_eq hL.symm), List.take_of_length_le (Nat.le_of_eq hL)]
      · intro u hu
        rw [List.toList_toArray, List.mem_append, List.mem_append] at hu
        rcases hu with (hu | hu) | hu
        · exact hno u (List.mem_of_mem_take hu)
        · exact noI_vD y u hu
        · exact hno u (List.mem_of_mem_drop hu)
    · have holds : ∀ j u, (dvCells xs)[j]? = some u → w.cell? ((⟨g, 0, none⟩ : Addr).add j) = some u := hb.own.cells (g := g) rfl
      have hr := run_append_grow (P := P) w t ty e i zD ht hi hz ⟨g, 0, none⟩ xs.length cap (dvCells xs) (by rw [dvCells_length, hsize]) holds ad 1 1 y.v (by rw [hsize]; rfl) hnew (by omega) (by omega) (growslice_fits (by omega) (by
        have := Nat.mul_le_mul_left (xs.length + 1) hby; omega))
      refine ⟨_, _, hr, ?_, grown_new w _ _⟩
      have := RowDc.of_new w.drew base e (xs ++ [y]) (grownCap w (xs.length + 1) cap e) (grownCap w (xs.length + 1) cap e - (xs.length + 1)) hbase (by have := hge cap; simp; omega) (hml cap)
      rw [dvCells_app] at this
      simpa using this
theorem wpList_append_dv {P : Program} {w : World} {ops : Array Oper} {rest : List Oper} {o : Oper} {a : Act} {Q : Exit → Act → World → Prop} (hgd : o.guard = none) (s x : Operand) (t : TypeId)
    (ho : o.op = .call { callee := .builtin .append, args := #[s, x], argTypes := #[t, t] })
    (base : Nat) (e : TypeId) (i : TypeInfo) (ht : P.underlying t = some (.slice e)) (hi : P.info? e = some i) (hz : i.zero = some zD)
    (hsize : i.size = 2) (hby : i.bytes ≤ 100) (v : Value) (xs : List Dv) (hs : a.eval s = v) (hown : RowDc w base e v xs)
    (ad : Addr) (y : Dv) (hx : a.eval x = .slice (some ad) 1 1) (hnew : ∀ j u, y.v[j]? = some u → w.cell? (ad.add j) = some u) (h63 : xs.length ≤ 1000000) (hbase : base ≤ w.heap.size)
    (h : ∀ v' w', RowDc w' base e v' (xs ++ [y]) → w.grownBy w' v.ownBlock → wpList P ops Q rest (a.put o.dst v') w') : wpList P ops Q (o :: rest) a w := by
  obtain ⟨v', w', hr, h2, h3⟩ := run_append_dv (P := P) w base t o.type e i ht hi hz hsize hby v xs hown ad y hnew h63 hbase
  refine wpList_plain hgd fun _ hK => ?_
  unfold Oper.wp execOp
  simp only [ho, resolve, invoke, builtin, Sem.run_bind, Sem.run_pure, Result.andThen_ok, List.map_toArray, List.map_cons, List.map_nil, hs, hx, hr]
  exact hK _ _ (h v' w' h2 h3)
/-- no number lies in the row's block -/
theorem RowDc.cells (hr : RowDc w base e v xs) {b j : Nat} {u : Value} (hv : v.ownBlock = some b) (hc : w.cell? ⟨b, j, none⟩ = some u) : NoI u := by
  rcases hr with ⟨rfl, _⟩ | ⟨g, cap, cs, rfl, _, hg, _, _, _, _, hno⟩
  · cases hv
  · simp only [Value.ownBlock, Option.some.injEq] at hv
    subst hv
    rw [cellsAt hg] at hc
    exact hno u (Array.mem_toList_iff.2 (Array.mem_of_getElem? hc))
theorem NatR.rowd {A : Option Addr} {c x : Nat} {l : List Nat} (h : NatR w A c l x) (hr : RowDc w base e v xs) (hg : w.grownBy w' v.ownBlock) : NatR w' A c l x := by
  refine ⟨⟨h.rd.1, fun hl => ?_⟩, h.norm, h.val, h.cap, h.max, h.nil⟩
  obtain ⟨b, o, e', h1, h2, hc⟩ := h.rd.2 hl
  refine ⟨b, o, e', h1, Nat.lt_of_lt_of_le h2 hg.size, fun j u hj => ?_⟩
  rw [← hc j u hj]
  refine World.cell?_of_block (hg.block b h2 (fun hb => ?_))
  have hu := hr.cells hb.symm (hc j u hj)
  unfold u64s at hj
  obtain ⟨d, _, rfl⟩ := List.mem_map.1 (List.mem_of_getElem? hj)
  exact hu _ _ rfl
theorem PlR.rowd {A : Option Addr} {c : Nat} {zs : List Nat} (h : PlR w A c zs) (hr : RowDc w base e v xs) (hg : w.grownBy w' v.ownBlock) : PlR w' A c zs := by
  refine ⟨⟨h.1.1, fun hl => ?_⟩, h.2⟩
  obtain ⟨b, o, e', h1, h2, hc⟩ := h.1.2 hl
  refine ⟨b, o, e', h1, Nat.lt_of_lt_of_le h2 hg.size, fun j u hj => ?_⟩
  rw [← hc j u hj]
  refine World.cell?_of_block (hg.block b h2 (fun hb => ?_))
  have hu := hr.cells hb.symm (hc j u hj)
  unfold nInts at hj
  obtain ⟨d, _, rfl⟩ := List.mem_map.1 (List.mem_of_getElem? hj)
  exact hu _ _ rfl
end
/-- with its numbers and lists -/
def DvR (w : World) (h : Dv) : Prop := NatR w h.A1 h.c1 h.l1 h.x ∧ PlR w h.A2 h.c2 h.zs
theorem DvR.on {w w' : World} {h : Dv} (hd : DvR w h) (hb : Below w.heap.size w w') : DvR w' h := ⟨hd.1.on hb, hd.2.on hb⟩
def RowDr (w : World) (base : Nat) (e : TypeId) (v : Value) (xs : List Dv) : Prop := RowDc w base e v xs ∧ ∀ h ∈ xs, DvR w h
section
variable {w w' : World} {base : Nat} {e : TypeId} {v v' : Value} {xs : List Dv} {y : Dv}
theorem RowDr.call (h : RowDr w base e v xs) (hb : Below w.heap.size w w') : RowDr w' base e v xs := ⟨h.1.below hb, fun y hy => (h.2 y hy).on hb⟩
theorem RowDr.app (h : RowDr w base e v xs) (hy : DvR w y) (h' : RowDc w' base e v' (xs ++ [y])) (hg : w.grownBy w' v.ownBlock) : RowDr w' base e v' (xs ++ [y]) := by
  refine ⟨h', fun z hz => ?_⟩
  rw [List.mem_append, List.mem_singleton] at hz
  rcases hz with hz | rfl
  · exact ⟨(h.2 z hz).1.rowd h.1 hg, (h.2 z hz).2.rowd h.1 hg⟩
  · exact ⟨hy.1.rowd h.1 hg, hy.2.rowd h.1 hg⟩
/-- the row as it is made: one division, of nothing -/
theorem RowDr.one (hn : NatR w none 0 [] 0) (hb : base ≤ w.heap.size) : RowDr (w.alloc (.cells #[.slice none 0 0, .slice none 0 0] e)) base e (.slice (some ⟨w.heap.size, 0, none⟩) 1 1) [⟨none, 0, [], 0, none, 0, []⟩] := by
  have h := RowDc.of_new w base e [⟨none, 0, [], 0, none, 0, []⟩] 1 0 hb rfl (by unfold maxLen; omega)
  have e1 : ((dvCells [⟨none, 0, [], 0, none, 0, []⟩]).toArray ++ Builtin.zeroCells zD.cells 0) = #[.slice none 0 0, .slice none 0 0] := by simp [dvCells, Dv.v, Builtin.zeroCells]
  rw [e1] at h
  refine ⟨h, fun y hy => ?_⟩
  rw [List.mem_singleton] at hy
  subst hy
  exact ⟨hn.on ((Below.refl _ w).alloc (Nat.le_refl _) _), PlR.nil _⟩
/-- an element's cells -/
theorem RowDr.at {i : Nat} {h : Dv} (hr : RowDr w base e v xs) (hi : xs[i]? = some h) : ∃ g cap, v = .slice (some ⟨g, 0, none⟩) xs.length cap ∧ g < w.heap.size ∧ w.cell? ⟨g, i * 2, none⟩ = some (.slice h.A1 h.l1.length h.c1) ∧ w.cell? ⟨g, i * 2 + 1, none⟩ = some (.slice h.A2 h.zs.length h.c2) ∧ DvR w h := by
  have hn := hr.2 h (List.mem_of_getElem? hi)
  obtain ⟨a0, a1⟩ := dvCells_at xs i h hi
  rcases hr.1 with ⟨_, rfl⟩ | ⟨g, cap, cs, rfl, _, hg, _, _, _, htk, _⟩
  · simp at hi
  · have hcell : ∀ j u, (dvCells xs)[j]? = some u → w.cell? ⟨g, j, none⟩ = some u := by
      intro j u hj
      have hjl := (List.getElem?_eq_some_iff.1 hj).1
      rw [dvCells_length] at hjl
      rw [← htk, List.getElem?_take_of_lt hjl, Array.getElem?_toList] at hj
      rw [cellsAt hg]; exact hj
    exact ⟨g, cap, rfl, heap_lt hg, hcell _ _ a0, hcell _ _ a1, hn⟩
end
/-- a variable that holds a division -/
def DvB (w : World) (b : Nat) (T : TypeId) (h : Dv) : Prop := w.heap[b]? = some (.cells h.v.toArray T (0, 0)) ∧ DvR w h
section
variable {w w' : World} {b : Nat} {T : TypeId} {h y : Dv}
theorem DvB.lt (hd : DvB w b T h) : b < w.heap.size := heap_lt hd.1
theorem DvB.on (hd : DvB w b T h) (hb : Below w.heap.size w w') : DvB w' b T h := ⟨(hb.block b hd.lt).trans hd.1, hd.2.on hb⟩
theorem DvB.cells (hd : DvB w b T h) : w.cell? ⟨b, 0, none⟩ = some (.slice h.A1 h.l1.length h.c1) ∧ w.cell? ⟨b, 1, none⟩ = some (.slice h.A2 h.zs.length h.c2) ∧ w.frozen? ⟨b, 0, none⟩ = false ∧ w.frozen? ⟨b, 1, none⟩ = false := by
  refine ⟨?_, ?_, frozenAt hd.1 0, frozenAt hd.1 1⟩
  · rw [cellsAt hd.1]; rfl
  · rw [cellsAt hd.1]; rfl
/-- what lies in such a variable is no number -/
theorem DvB.noI (hd : DvB w b T h) {j : Nat} {u : Value} (hc : w.cell? ⟨b, j, none⟩ = some u) : NoI u := by
  rw [cellsAt hd.1] at hc
  exact noI_vD h u (by simpa using List.mem_of_getElem? (by simpa using hc))
theorem DvR.frB (hy : DvR w y) (hd : DvB w b T h) (hf : Fr (fun i => i = b) w w') : DvR w' y := by
  refine ⟨hy.1.keepB hf.size fun b' o e hb hl => hf.block b' hb (fun hbb => ?_), ⟨hy.2.1.1, fun hl => ?_⟩, hy.2.2⟩
  · subst hbb
    obtain ⟨b2, o2, e2, _, _, hc⟩ := hy.1.rd.2 hl
    rw [e] at e2
    simp only [Option.some.injEq, Addr.mk.injEq, and_true] at e2
    obtain ⟨rfl, rfl⟩ := e2
    have hu : (u64s y.l1)[0]? = some ((u64s y.l1)[0]'(by rw [u64s_length]; exact hl)) := List.getElem?_eq_getElem _
    obtain ⟨d, _, hd2⟩ := u64s_get hu
    exact hd.noI (hc 0 _ hu) _ _ hd2
  · obtain ⟨b2, o2, e2, h1, h2, hc⟩ := hy.2.1.2 hl
    refine ⟨b2, o2, e2, h1, Nat.lt_of_lt_of_le h2 hf.size, fun j u hj => ?_⟩
    rw [← hc j u hj]
    refine World.cell?_of_block (hf.block b2 h2 (fun hbb => ?_))
    subst hbb
    have hj2 := hj
    unfold nInts at hj2
    obtain ⟨d, _, rfl⟩ := List.mem_map.1 (List.mem_of_getElem? hj2)
    exact hd.noI (hc j _ hj) _ _ rfl
end
end Go.Proofs.YtnpfdelklolchaaGreatDoor

/- Divisions of a list: plain. -/
namespace Go.Proofs.YtnpfdelklolchaaGreatDoor

/-- lexicographic order of lists of one length -/
def lexL : List Nat → List Nat → Prop
  | [], _ => True
  | _ :: _, [] => False
  | x :: a, y :: b => x < y ∨ (x = y ∧ lexL a b)
theorem lexL_refl : ∀ a, lexL a a
  | [] => trivial
  | _ :: a => .inr ⟨rfl, lexL_refl a⟩
theorem lexL_trans : ∀ {a b c : List Nat}, lexL a b → lexL b c → lexL a c
  | [], _, _, _, _ => trivial
  | _ :: _, [], _, h, _ => h.elim
  | _ :: _, _ :: _, [], _, h => h.elim
  | x :: a, y :: b, z :: c, h1, h2 => by
    rcases h1 with h1 | ⟨h1, h1'⟩ <;> rcases h2 with h2 | ⟨h2, h2'⟩
    · exact .inl (by omega)
    · exact .inl (by omega)
    · exact .inl (by omega)
    · exact .inr ⟨by omega, lexL_trans h1' h2'⟩
theorem lexL_anti : ∀ {a b : List Nat}, lexL a b → lexL b a → a = b
  | [], [], _, _ => rfl
  | [], _ :: _, _, h => h.elim
  | _ :: _, [], h, _ => h.elim
  | x :: a, y :: b, h1, h2 => by
    rcases h1 with h1 | ⟨h1, h1'⟩ <;> rcases h2 with h2 | ⟨h2, h2'⟩
    · omega
    · omega
    · omega
    · rw [h1, lexL_anti h1' h2']
theorem lexL_snoc : ∀ {a b : List Nat} (k : Nat), a.length = b.length → lexL a b → lexL (a ++ [k]) (b ++ [k])
  | [], [], _, _, _ => .inr ⟨rfl, trivial⟩
  | [], _ :: _, _, h, _ => absurd h (by simp)
  | _ :: _, [], _, h, _ => absurd h (by simp)
  | x :: a, y :: b, k, h, hl => by
    rcases hl with hl | ⟨rfl, hl⟩
    · exact .inl hl
    · exact .inr ⟨rfl, lexL_snoc k (by simpa using h) hl⟩
/-- a division with its cost: the order in which the best one is sought -/
def leK (x y : Nat × List Nat) : Prop := x.1 < y.1 ∨ (x.1 = y.1 ∧ (x.2.length < y.2.length ∨ (x.2.length = y.2.length ∧ lexL x.2 y.2)))
theorem leK_refl (x : Nat × List Nat) : leK x x := .inr ⟨rfl, .inr ⟨rfl, lexL_refl _⟩⟩
theorem leK_trans {x y z : Nat × List Nat} (h1 : leK x y) (h2 : leK y z) : leK x z := by
  unfold leK at *
  rcases h1 with h1 | ⟨h1, h1' | ⟨h1', h1''⟩⟩ <;> rcases h2 with h2 | ⟨h2, h2' | ⟨h2', h2''⟩⟩
  · exact .inl (by omega)
  · exact .inl (by omega)
  · exact .inl (by omega)
  · exact .inl (by omega)
  · exact .inr ⟨by omega, .inl (by omega)⟩
  · exact .inr ⟨by omega, .inl (by omega)⟩
  · exact .inl (by omega)
  · exact .inr ⟨by omega, .inl (by omega)⟩
  · exact .inr ⟨by omega, .inr ⟨by omega, lexL_trans h1'' h2''⟩⟩
theorem leK_anti {x y : Nat × List Nat} (h1 : leK x y) (h2 : leK y x) : x = y := by
  unfold leK at *
  obtain ⟨a, b⟩ := x
  obtain ⟨c, d⟩ := y
  simp only at *
  rcases h1 with h1 | ⟨h1, h1' | ⟨h1', h1''⟩⟩ <;> rcases h2 with h2 | ⟨h2, h2' | ⟨h2', h2''⟩⟩
  · omega
  · omega
  · omega
  · omega
  · omega
  · omega
  · omega
  · omega
  · rw [h1, lexL_anti h1'' h2'']
/-- the places of a division of [i, j) -/
def Val : Nat → Nat → List Nat → Prop
  | _, _, [] => True
  | i, j, k :: r => i < k ∧ k < j ∧ Val k j r
theorem Val.snoc : ∀ {i m j : Nat} {r : List Nat}, Val i m r → i < m → m < j → Val i j (r ++ [m])
  | _, _, _, [], _, h1, h2 => ⟨h1, h2, trivial⟩
  | i, m, j, k :: r, h, h1, h2 => ⟨h.1, by have := h.2.1; omega, h.2.2.snoc h.2.1 h2⟩
theorem Val.unsnoc : ∀ {i m j : Nat} {r : List Nat}, Val i j (r ++ [m]) → Val i m r ∧ i < m ∧ m < j
  | _, _, _, [], h => ⟨trivial, h.1, h.2.1⟩
  | i, m, j, k :: r, h => by
    obtain ⟨g1, g2, g3⟩ := Val.unsnoc h.2.2
    exact ⟨⟨h.1, g2, g1⟩, by have := h.1; omega, g3⟩
section
variable (c : Nat → Nat → Nat) (E : Nat)
/-- the cost of a division of [i, j): c of each part, E for each place -/
def cst : Nat → List Nat → Nat → Nat
  | i, [], j => c i j
  | i, k :: r, j => c i k + E + cst k r j
theorem cst_snoc : ∀ (i : Nat) (r : List Nat) (m j : Nat), cst c E i (r ++ [m]) j = cst c E i r m + E + c m j
  | i, [], m, j => by simp [cst]
  | i, k :: r, m, j => by
    have := cst_snoc k r m j
    simp only [List.cons_append, cst]
    omega
/-- the best division -/
def IsMin (i j : Nat) (x : Nat × List Nat) : Prop := Val i j x.2 ∧ x.1 = cst c E i x.2 j ∧ ∀ a, Val i j a → leK x (cst c E i a j, a)
theorem IsMin.uniq {i j : Nat} {x y : Nat × List Nat} (hx : IsMin c E i j x) (hy : IsMin c E i j y) : x = y := by
  obtain ⟨h1, h2, h3⟩ := hx
  obtain ⟨g1, g2, g3⟩ := hy
  have k1 := h3 y.2 g1
  have k2 := g3 x.2 h1
  rw [← g2] at k1
  rw [← h2] at k2
  exact leK_anti k1 k2
/-- the best one among those whose first place is below k -/
def IsMinF (i j k : Nat) (x : Nat × List Nat) : Prop := Val i j x.2 ∧ x.1 = cst c E i x.2 j ∧ ∀ a, Val i j a → (∀ m r, a = m :: r → m < k) → leK x (cst c E i a j, a)
theorem IsMinF.start (i j : Nat) : IsMinF c E i j (i + 1) (c i j, []) := by
  refine ⟨trivial, rfl, fun a ha hk => ?_⟩
  cases a with
  | nil => exact leK_refl _
  | cons m r => have := ha.1; have := hk m r rfl; omega
theorem leK_front {i k j : Nat} {x : Nat × List Nat} {r : List Nat} (h : leK x (cst c E k r j, r)) : leK (c i k + E + x.1, k :: x.2) (cst c E i (k :: r) j, k :: r) := by
  unfold leK at *
  simp only [cst, List.length_cons] at *
  rcases h with h | ⟨h, h' | ⟨h', h''⟩⟩
  · exact .inl (by omega)
  · exact .inr ⟨by omega, .inl (by omega)⟩
  · exact .inr ⟨by omega, .inr ⟨by omega, .inr ⟨rfl, h''⟩⟩⟩
/-- one first place more -/
theorem IsMinF.step {i j k : Nat} {x y z : Nat × List Nat} (hik : i < k) (hkj : k < j) (hx : IsMinF c E i j k x) (hy : IsMin c E k j y) (hz : (leK (c i k + E + y.1, k :: y.2) x ∧ z = (c i k + E + y.1, k :: y.2)) ∨ (leK x (c i k + E + y.1, k :: y.2) ∧ z = x)) : IsMinF c E i j (k + 1) z := by
  obtain ⟨h1, h2, h3⟩ := hx
  obtain ⟨g1, g2, g3⟩ := hy
  have hle : leK z x ∧ leK z (c i k + E + y.1, k :: y.2) := by
    rcases hz with ⟨hz, rfl⟩ | ⟨hz, rfl⟩
    · exact ⟨hz, leK_refl _⟩
    · exact ⟨leK_refl _, hz⟩
  refine ⟨?_, ?_, fun a ha hk => ?_⟩
  · rcases hz with ⟨_, rfl⟩ | ⟨_, rfl⟩
    · exact ⟨hik, hkj, g1⟩
    · exact h1
  · rcases hz with ⟨_, rfl⟩ | ⟨_, rfl⟩
    · simp only [cst]; rw [g2]
    · exact h2
  · by_cases hak : ∃ r, a = k :: r
    · obtain ⟨r, rfl⟩ := hak
      exact leK_trans hle.2 (leK_front c E (g3 r ha.2.2))
    · refine leK_trans hle.1 (h3 a ha (fun m r e => ?_))
      have := hk m r e
      rcases Nat.lt_or_ge m k with hm | hm
      · exact hm
      · obtain rfl : m = k := by omega
        exact absurd ⟨r, e⟩ hak
theorem IsMinF.done {i j : Nat} {x : Nat × List Nat} (h : IsMinF c E i j j x) : IsMin c E i j x :=
  ⟨h.1, h.2.1, fun a ha => h.2.2 a ha (fun m r e => by subst e; exact ha.2.1)⟩
/-- the best one among those whose last place is at least m; at m = 0 the whole too -/
def IsMinL (i j m : Nat) (x : Nat × List Nat) : Prop := Val i j x.2 ∧ x.1 = cst c E i x.2 j ∧ ∀ a, Val i j a → (∀ r k, a = r ++ [k] → m ≤ k) → (a = [] → m ≤ i) → leK x (cst c E i a j, a)
theorem leK_back {i k j : Nat} {x : Nat × List Nat} {r : List Nat} (h : leK x (cst c E i r k, r)) : leK (x.1 + c k j + E, x.2 ++ [k]) (cst c E i (r ++ [k]) j, r ++ [k]) := by
  unfold leK at *
  rw [cst_snoc]
  simp only [List.length_append, List.length_cons, List.length_nil] at *
  rcases h with h | ⟨h, h' | ⟨h', h''⟩⟩
  · exact .inl (by omega)
  · exact .inr ⟨by omega, .inl (by omega)⟩
  · exact .inr ⟨by omega, .inr ⟨by omega, lexL_snoc k h' h''⟩⟩
/-- the candidate with last place k, or (k = i) the whole -/
def candL (i j k : Nat) (y : Nat × List Nat) : Nat × List Nat := if i < k then (y.1 + c k j + E, y.2 ++ [k]) else (c i j, [])
theorem candL_val {i j k : Nat} {y : Nat × List Nat} (hkj : k < j) (hik : i ≤ k) (hy : i < k → IsMin c E i k y) : Val i j (candL c E i j k y).2 ∧ (candL c E i j k y).1 = cst c E i (candL c E i j k y).2 j := by
  unfold candL
  by_cases h : i < k
  · obtain ⟨g1, g2, _⟩ := hy h
    rw [if_pos h]
    refine ⟨g1.snoc h hkj, ?_⟩
    rw [cst_snoc, ← g2]
    simp only; omega
  · rw [if_neg h]; exact ⟨trivial, rfl⟩
theorem candL_le {i j k : Nat} {y : Nat × List Nat} (hik : i ≤ k) (hy : i < k → IsMin c E i k y) {a : List Nat} (ha : Val i j a) (hk : (∃ r, a = r ++ [k]) ∨ (a = [] ∧ k = i)) : leK (candL c E i j k y) (cst c E i a j, a) := by
  unfold candL
  rcases hk with ⟨r, rfl⟩ | ⟨rfl, rfl⟩
  · obtain ⟨g1, g2, g3⟩ := ha.unsnoc
    rw [if_pos g2]
    exact leK_back c E ((hy g2).2.2 r g1)
  · rw [if_neg (by omega)]
    exact leK_refl _
theorem IsMinL.start {i j : Nat} {y : Nat × List Nat} (hij : i < j) (hy : i < j - 1 → IsMin c E i (j - 1) y) : IsMinL c E i j (j - 1) (candL c E i j (j - 1) y) := by
  obtain ⟨h1, h2⟩ := candL_val c E (show j - 1 < j by omega) (show i ≤ j - 1 by omega) hy
  refine ⟨h1, h2, fun a ha hk h0 => candL_le c E (by omega) hy ha ?_⟩
  rcases List.eq_nil_or_concat a with rfl | ⟨r, k, rfl⟩
  · exact .inr ⟨rfl, by have := h0 rfl; omega⟩
  · rw [List.concat_eq_append] at ha hk ⊢
    have := hk r k rfl
    have := ha.unsnoc.2.2
    obtain rfl : k = j - 1 := by omega
    exact .inl ⟨r, rfl⟩
theorem IsMinL.step {i j m : Nat} {x y z : Nat × List Nat} (him : i ≤ m) (hmj : m < j) (hx : IsMinL c E i j (m + 1) x) (hy : i < m → IsMin c E i m y) (hz : (leK (candL c E i j m y) x ∧ z = candL c E i j m y) ∨ (leK x (candL c E i j m y) ∧ z = x)) : IsMinL c E i j m z := by
  obtain ⟨h1, h2, h3⟩ := hx
  obtain ⟨k1, k2⟩ := candL_val c E hmj him hy
  have hle : leK z x ∧ leK z (candL c E i j m y) := by
    rcases hz with ⟨hz, rfl⟩ | ⟨hz, rfl⟩
    · exact ⟨hz, leK_refl _⟩
    · exact ⟨leK_refl _, hz⟩
  refine ⟨?_, ?_, fun a ha hk h0 => ?_⟩
  · rcases hz with ⟨_, rfl⟩ | ⟨_, rfl⟩
    · exact k1
    · exact h1
  · rcases hz with ⟨_, rfl⟩ | ⟨_, rfl⟩
    · exact k2
    · exact h2
  · by_cases hc : (∃ r, a = r ++ [m]) ∨ (a = [] ∧ m = i)
    · exact leK_trans hle.2 (candL_le c E him hy ha hc)
    · refine leK_trans hle.1 (h3 a ha (fun r k e => ?_) (fun e => ?_))
      · have := hk r k e
        rcases Nat.lt_or_ge m k with g | g
        · exact g
        · obtain rfl : k = m := by omega
          exact absurd (.inl ⟨r, e⟩) hc
      · have := h0 e
        rcases Nat.lt_or_ge m i with g | g
        · omega
        · exact absurd (.inr ⟨e, by omega⟩) hc
theorem IsMinL.done {i j : Nat} {x : Nat × List Nat} (h : IsMinL c E i j i x) : IsMin c E i j x :=
  ⟨h.1, h.2.1, fun a ha => h.2.2 a ha (fun r k e => by subst e; have := ha.unsnoc.2.1; omega) (fun _ => Nat.le_refl _)⟩
end
end Go.Proofs.YtnpfdelklolchaaGreatDoor
