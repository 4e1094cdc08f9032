/- Append of one integer to a row whose spare cells are zeros: a number that lies in the row's block keeps its value, because its highest limb is not 0. -/
import Derived.Test.YtkoodmoilfgafaaDoorR7Area
import Derived.Laws.AppendOwn
import Derived.Laws.Append
namespace Go.Proofs.YtkoodmoilfgafaaDoor
open Go Go.RowKit Go.Proofs

/-- a row of integers of one's own; its spare cells are zeros -/
def RowZ (w : World) (base : Nat) (e : TypeId) (v : Value) (zs : List Int) : Prop :=
  (v = .slice none 0 0 ∧ zs = []) ∨
  ∃ g cap, v = .slice (some ⟨g, 0, none⟩) zs.length cap ∧ base ≤ g ∧ w.heap[g]? = some (.cells (ints zs ++ List.replicate (cap - zs.length) (Value.int .i64 0)).toArray e (0, 0)) ∧ zs.length ≤ cap ∧ cap ≤ maxLen
/-- what an append to such a row leaves as it was -/
structure GrewZ (w w' : World) (v : Value) (n : Nat) : Prop where
  gr : w.grownBy w' v.ownBlock
  low : ∀ g j, v.ownBlock = some g → j < n → w'.cell? ⟨g, j, none⟩ = w.cell? ⟨g, j, none⟩
section
variable {w w' : World} {base : Nat} {e : TypeId} {v : Value} {zs : List Int}
theorem RowZ.own (h : RowZ w base e v zs) : w.ownsRow base e 1 v zs.length (ints zs) := by
  refine ⟨by simp [ints], ?_⟩
  rcases h with ⟨rfl, rfl⟩ | ⟨g, cap, rfl, hb, hg, h1, h2⟩
  · exact .inl ⟨rfl, rfl⟩
  · refine .inr ⟨g, cap, _, rfl, hb, hg, h1, h2, ?_, ?_⟩
    · simp [ints]; omega
    · rw [Nat.mul_one, List.take_append_of_le_length (by simp [ints]), List.take_of_length_le (by simp [ints])]
theorem RowZ.fr {may : Nat → Prop} (h : RowZ w base e v zs) (hf : Fr may w w') (hm : ∀ i, some i = v.ownBlock → ¬ may i) : RowZ w' base e v zs := by
  rcases h with h0 | ⟨g, cap, hv, hb, hh, hr⟩
  · exact .inl h0
  · exact .inr ⟨g, cap, hv, hb, (hf.block g (heap_lt hh) (hm g (by rw [hv]; rfl))).trans hh, hr⟩
theorem RowZ.block (h : RowZ w base e v zs) {i : Nat} (hi : some i = v.ownBlock) : base ≤ i ∧ i < w.heap.size := ownsRow_block h.own hi
theorem RowZ.below (h : RowZ w base e v zs) (hb : Below w.heap.size w w') : RowZ w' base e v zs :=
  h.fr (Fr.of_below hb) (fun i hi hm => by have := (h.block hi).2; omega)
theorem RowZ.alloc (h : RowZ w base e v zs) (o : Obj) : RowZ (w.alloc o) base e v zs := h.below ((Below.refl _ _).alloc (Nat.le_refl _) _)
theorem zeroCells_one (n : Nat) : (Builtin.zeroCells (Value.int .i64 0).cells n).toList = List.replicate n (Value.int .i64 0) := by
  apply List.ext_getElem
  · simp [Builtin.zeroCells, Value.cells]
  · intro i h1 h2
    simp [Builtin.zeroCells, Value.cells, Nat.mod_one]
theorem RowZ.of_new (w : World) (base : Nat) (e : TypeId) (ys : List Int) (cap : Nat) (cs : Array Value) (hb : base ≤ w.heap.size) (hcs : cs.toList = ints ys ++ List.replicate (cap - ys.length) (Value.int .i64 0)) (h1 : ys.length ≤ cap) (h2 : cap ≤ maxLen) :
    RowZ (w.alloc (.cells cs e)) base e (.slice (some ⟨w.heap.size, 0, none⟩) ys.length cap) ys := by
  refine .inr ⟨w.heap.size, cap, rfl, hb, ?_, h1, h2⟩
  rw [alloc_at _ _ _ rfl]
  congr 2
  rw [← hcs]
theorem grew_new (w : World) (v : Value) (n : Nat) (o : Obj) (hv : ∀ g, v.ownBlock = some g → g < w.heap.size) : GrewZ w (w.drew.alloc o) v n :=
  ⟨⟨rfl, rfl, rfl, by simp, fun k hk _ => Below.heap_alloc w.drew _ k hk⟩, fun g j hg _ => by
    show (w.drew.alloc o).cell? ⟨g, j, none⟩ = w.drew.cell? ⟨g, j, none⟩
    exact World.cell?_of_block (Below.heap_alloc w.drew o g (hv g hg))⟩
theorem run_append_z {P : Program} (w : World) (base : Nat) (t ty e : TypeId) (i : TypeInfo) (ht : P.underlying t = some (.slice e)) (hi : P.info? e = some i) (hz : i.zero = some (.int .i64 0))
    (hsize : i.size = 1) (hby : i.bytes = 8) (v : Value) (zs : List Int) (hown : RowZ w base e v zs) (ad : Addr) (z : Int) (hnew : ∀ j u, [Value.int .i64 z][j]? = some u → w.cell? (ad.add j) = some u) (h63 : zs.length ≤ 1000000) (hbase : base ≤ w.heap.size) :
    ∃ v' w', (Builtin.append_ #[t, t] ty #[v, .slice (some ad) 1 1]).run P w = .ok v' w' ∧ RowZ w' base e v' (zs ++ [z]) ∧ GrewZ w w' v zs.length := by
  have hml : ∀ old, grownCap w (zs.length + 1) old e ≤ maxLen := fun old => grownCap_le_maxLen w _ old e (by unfold maxLen; omega)
  have hge : ∀ old, zs.length + 1 ≤ grownCap w (zs.length + 1) old e := fun old => grownCap_ge w _ old e
  have hb := hown
  rcases hown with ⟨rfl, rfl⟩ | ⟨g, cap, rfl, hbg, hg, hnc, hcm⟩
  · have hr := run_append_nil (P := P) w t ty e i (.int .i64 0) ht hi hz ad 1 1 [.int .i64 z] (by simp [hsize]) hnew (by omega) (by omega) (by rw [hby]; omega)
    refine ⟨_, _, hr, ?_, grew_new w _ _ _ (fun g h => by cases h)⟩
    refine RowZ.of_new w.drew base e [z] (grownCap w 1 0 e) _ hbase ?_ (hge 0) (hml 0)
    rw [Array.toList_append, zeroCells_one]; rfl
  · by_cases hroom : zs.length + 1 ≤ cap
    · have hfit : zs.length * i.size + [Value.int .i64 z].length ≤ (ints zs ++ List.replicate (cap - zs.length) (Value.int .i64 0)).toArray.size := by simp [ints, hsize]; omega
      have hr := run_append_room (P := P) w t ty e i ht hi g zs.length cap _ hg ad 1 1 [.int .i64 z] (by simp [hsize]) hnew (by simp [Value.oneCell']) hroom hfit
      refine ⟨_, _, hr, .inr ⟨g, cap, by simp, hbg, ?_, by simp; omega, hcm⟩, ⟨⟨rfl, rfl, rfl, by simp, fun k _ hk => setRow_other w g k _ (fun e => hk (by simp [Value.ownBlock, e]))⟩, ?_⟩⟩
      · rw [setRow_heap w g _ _ e _ hg]
        have e1 : List.take (zs.length * i.size) (ints zs ++ List.replicate (cap - zs.length) (Value.int .i64 0)) = ints zs := by
          rw [hsize, Nat.mul_one, List.take_append_of_le_length (by simp [ints]), List.take_of_length_le (by simp [ints])]
        have e2 : List.drop (zs.length * i.size + [Value.int .i64 z].length) (ints zs ++ List.replicate (cap - zs.length) (Value.int .i64 0)) = List.replicate (cap - (zs ++ [z]).length) (Value.int .i64 0) := by
          rw [hsize, Nat.mul_one, List.drop_append, List.drop_of_length_le (by simp [ints])]
          simp only [List.nil_append, List.drop_replicate, ints_length, List.length_append, List.length_singleton]
          congr 1; omega
        simp only [List.toList_toArray]
        rw [e1, e2]
        simp [ints]
      · intro g' j hg' hj
        simp only [Value.ownBlock, Option.some.injEq] at hg'
        subst hg'
        rw [cell_setRow_same w g j _ _ e _ hg, cellsAt hg]
        simp only [List.toList_toArray, List.getElem?_toArray]
        rw [hsize, Nat.mul_one, List.append_assoc, List.getElem?_append_left (by simp [ints]; omega), List.getElem?_take_of_lt hj]
    · have holds : ∀ j u, (ints zs)[j]? = some u → w.cell? ((⟨g, 0, none⟩ : Addr).add j) = some u := hb.own.cells (g := g) rfl
      have hr := run_append_grow (P := P) w t ty e i (.int .i64 0) ht hi hz ⟨g, 0, none⟩ zs.length cap (ints zs) (by simp [ints, hsize]) holds ad 1 1 [.int .i64 z] (by simp [hsize]) hnew (by omega) (by omega) (growslice_fits (by omega) (by rw [hby]; omega))
      refine ⟨_, _, hr, ?_, grew_new w _ _ _ (fun g' h => by simp only [Value.ownBlock, Option.some.injEq] at h; subst h; exact heap_lt hg)⟩
      have := RowZ.of_new w.drew base e (zs ++ [z]) (grownCap w (zs.length + 1) cap e) ((ints zs).toArray ++ [Value.int .i64 z].toArray ++ Builtin.zeroCells (Value.int .i64 0).cells (grownCap w (zs.length + 1) cap e - (zs.length + 1))) hbase (by
        rw [Array.toList_append, zeroCells_one]; simp [ints]) (by simp; exact hge cap) (hml cap)
      simpa using this
theorem wpList_append_z {P : Program} {w : World} {ops : Array Oper} {rest : List Oper} {o : Oper} {a : Act} {Q : Exit → Act → World → Prop} (hgd : o.guard = none) (s x : Operand) (t : TypeId)
    (ho : o.op = .call { callee := .builtin .append, args := #[s, x], argTypes := #[t, t] })
    (base : Nat) (e : TypeId) (i : TypeInfo) (ht : P.underlying t = some (.slice e)) (hi : P.info? e = some i) (hz : i.zero = some (.int .i64 0))
    (hsize : i.size = 1) (hby : i.bytes = 8) (v : Value) (zs : List Int) (hs : a.eval s = v) (hown : RowZ w base e v zs)
    (ad : Addr) (z : Int) (hx : a.eval x = .slice (some ad) 1 1) (hnew : ∀ j u, [Value.int .i64 z][j]? = some u → w.cell? (ad.add j) = some u) (h63 : zs.length ≤ 1000000) (hbase : base ≤ w.heap.size)
    (h : ∀ v' w', RowZ w' base e v' (zs ++ [z]) → GrewZ w w' v zs.length → wpList P ops Q rest (a.put o.dst v') w') : wpList P ops Q (o :: rest) a w := by
  obtain ⟨v', w', hr, h2, h3⟩ := run_append_z (P := P) w base t o.type e i ht hi hz hsize hby v zs hown ad z hnew h63 hbase
  refine wpList_plain hgd fun _ hK => ?_
  unfold Oper.wp execOp
  simp only [ho, resolve, invoke, builtin, Sem.run_bind, Sem.run_pure, Result.andThen_ok, List.map_toArray, List.map_cons, List.map_nil, hs, hx, hr]
  exact hK _ _ (h v' w' h2 h3)
/-- the limbs of a number that lie in the row's block are elements of the row -/
theorem RNatR.rowz {A : Option Addr} {c x : Nat} {l : List Nat} (h : RNatR w A c l x) (hr : RowZ w base e v zs) : ∀ b o, A = some ⟨b, o, none⟩ → v.ownBlock = some b → 0 < l.length → o + l.length ≤ zs.length := by
  intro b o hA hv hl
  obtain ⟨b', o', e', _, _, hc⟩ := h.rd.2 hl
  rw [hA] at e'
  simp only [Option.some.injEq, Addr.mk.injEq, and_true] at e'
  obtain ⟨rfl, rfl⟩ := e'
  rcases hr with ⟨rfl, _⟩ | ⟨g, cap, rfl, _, hg, hnc, _⟩
  · cases hv
  · simp only [Value.ownBlock, Option.some.injEq] at hv
    subst hv
    refine Classical.byContradiction fun hlt => ?_
    have hu : (d4s l)[l.length - 1]? = some (.int .i64 ((l[l.length - 1]'(by omega) : Nat) : Int)) := by
      unfold d4s; rw [List.getElem?_map, List.getElem?_eq_getElem (by omega)]; rfl
    have h1 := hc _ _ hu
    rw [cellsAt hg, List.getElem?_toArray, List.getElem?_append_right (by simp [ints]; omega), List.getElem?_replicate] at h1
    split at h1
    · simp only [Option.some.injEq, Value.int.injEq, true_and] at h1
      have := h.norm.2
      rw [List.getLast?_eq_getElem?, List.getElem?_eq_getElem (by omega)] at this
      exact this (by congr 1; omega)
    · cases h1
theorem RNatR.grew {A : Option Addr} {c x : Nat} {l : List Nat} (h : RNatR w A c l x) (hr : RowZ w base e v zs) (hg : GrewZ w w' v zs.length) : RNatR w' A c l x := by
  have hz := h.rowz hr
  refine ⟨⟨h.rd.1, fun hl => ?_⟩, h.norm, h.val, h.cap, h.max, h.nil⟩
  obtain ⟨b, o, e', h1, h2, hc⟩ := h.rd.2 hl
  refine ⟨b, o, e', h1, Nat.lt_of_lt_of_le h2 hg.gr.size, fun j u hj => ?_⟩
  have hjl : j < l.length := by have := (List.getElem?_eq_some_iff.1 hj).1; simpa [d4s] using this
  rw [← hc j u hj]
  by_cases hb : v.ownBlock = some b
  · have := hz b o e' hb hl
    exact hg.low b (o + j) hb (by omega)
  · exact World.cell?_of_block (hg.gr.block b h2 (fun e => hb e.symm))
theorem VarQ.grew {B : Nat} {q : Rat} (h : VarQ w B q) (hr : RowZ w base e v zs) (hB : B < base) (hg : GrewZ w w' v zs.length) : VarQ w' B q := by
  obtain ⟨A1, c1, l1, A2, c2, l2, e', h1, h2⟩ := h
  refine ⟨A1, c1, l1, A2, c2, l2, (hg.gr.block B (heap_lt e') (fun hb => ?_)).trans e', h1.grew hr hg, h2.grew hr hg⟩
  have := (hr.block hb).1; omega
end
end Go.Proofs.YtkoodmoilfgafaaDoor
