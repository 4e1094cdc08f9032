import Derived.Test.YtnpfdelklolchaaGreatDoorG36
import Derived.Test.YtnpfdelklolchaaGreatDoorG25
import Derived.Test.YtnpfdelklolchaaGreatDoorG23
import Derived.Test.YtnpfdelklolchaaGreatDoorG14
import Derived.Test.YtnpfdelklolchaaGreatDoorG22
import Derived.Test.YtnpfdelklolchaaGreatDoorG28
/- Changes: the cost as the law adds it up, and that the best division is the least one: plain. -/
namespace Go.Proofs.YtnpfdelklolchaaGreatDoor
open Go

theorem segL_snoc {l : List Int} {i k : Nat} {x : Int} (hik : i ≤ k) (hx : l[k]? = some x) : segL l i (k + 1) = segL l i k ++ [x] := by
  unfold segL
  rw [show k + 1 - i = (k - i) + 1 by omega, List.take_add_one, List.getElem?_drop, show i + (k - i) = k by omega, hx]
  rfl
theorem segL_nil0 (l : List Int) (i : Nat) : segL l i i = [] := by unfold segL; rw [Nat.sub_self]; rfl
theorem devR_snoc (m : Rat) (z : Int) : ∀ xs : List Int, devR m (xs ++ [z]) = devR m xs + ((z : Rat) - m) * ((z : Rat) - m)
  | [] => by
    show ((z : Rat) - m) * ((z : Rat) - m) + 0 = 0 + ((z : Rat) - m) * ((z : Rat) - m)
    rw [Rat.add_zero, Rat.zero_add]
  | x :: xs => by
    have ih := devR_snoc m z xs
    rw [List.cons_append, devR, devR, ih]
    grind
/-- the mean of a part -/
def mnR (l : List Int) (f t : Nat) : Rat := mkRat (segL l f t).sum (t - f)
/-- what the parts from the i-th one on cost, which begins at f -/
def rstR (l : List Int) (zs : List Nat) (i f : Nat) : Rat := if i ≤ zs.length then costR l 0 f (zs.drop i) else 0
theorem cost_split (l : List Int) (pen : Nat) : ∀ (r : List Nat) (f : Nat), costR l pen f r = ((pen * r.length : Nat) : Rat) + costR l 0 f r
  | [], f => by
    rw [costR, costR]
    have e : ((pen * ([] : List Nat).length : Nat) : Rat) = 0 := by simp
    rw [e, Rat.zero_add]
  | k :: r, f => by
    have ih := cost_split l pen r k
    rw [costR, costR, ih, List.length_cons, Nat.mul_succ, natR_add]
    have e : ((0 : Nat) : Rat) = 0 := rfl
    rw [e]
    grind
theorem mn_eq {l : List Int} {f t : Nat} (h : t ≤ l.length) : ((segL l f t).sum : Rat) / (((segL l f t).length : Nat) : Rat) = mnR l f t := by
  unfold mnR
  rw [Rat.mkRat_eq_div, segL_length h]
/-- where a part ends -/
def endN (l : List Int) (zs : List Nat) (i : Nat) : Nat := zs[i]?.getD l.length
/-- the state of the loop over the parts -/
def CI (l : List Int) (zs : List Nat) (i f : Nat) : Prop := (i ≤ zs.length ∧ f < l.length ∧ Val f l.length (zs.drop i)) ∨ (i = zs.length + 1 ∧ f = l.length)
theorem ci_le {l : List Int} {zs : List Nat} {i f : Nat} (h : CI l zs i f) : f ≤ l.length := by rcases h with ⟨_, h, _⟩ | ⟨_, h⟩ <;> omega
theorem ci_step {l : List Int} {zs : List Nat} {i f : Nat} (h : CI l zs i f) (hi : i ≤ zs.length) : f < endN l zs i ∧ endN l zs i ≤ l.length ∧ CI l zs (i + 1) (endN l zs i) ∧
    rstR l zs i f = devR (mnR l f (endN l zs i)) (segL l f (endN l zs i)) + rstR l zs (i + 1) (endN l zs i) := by
  rcases h with ⟨_, h1, h2⟩ | ⟨h1, _⟩
  · unfold endN rstR CI
    rw [if_pos hi]
    by_cases h3 : i < zs.length
    · have e : zs[i]? = some zs[i] := List.getElem?_eq_getElem h3
      rw [e]
      rw [List.drop_eq_getElem_cons h3] at h2 ⊢
      obtain ⟨g1, g2, g3⟩ := h2
      simp only [Option.getD_some]
      refine ⟨g1, Nat.le_of_lt g2, .inl ⟨h3, g2, g3⟩, ?_⟩
      rw [if_pos (by omega), costR, mn_eq (Nat.le_of_lt g2)]
      have e0 : ((0 : Nat) : Rat) = 0 := rfl
      rw [e0, Rat.add_zero]
    · obtain rfl : i = zs.length := by omega
      rw [List.getElem?_eq_none (Nat.le_refl _), List.drop_length]
      simp only [Option.getD_none]
      refine ⟨h1, Nat.le_refl _, .inr ⟨trivial, trivial⟩, ?_⟩
      rw [if_neg (by omega), costR, mn_eq (Nat.le_refl _), Rat.add_zero]
  · omega
theorem endN_at {l : List Int} {zs : List Nat} {i k : Nat} (h : zs[i]? = some k) : endN l zs i = k := by unfold endN; rw [h]; rfl
theorem endN_last {l : List Int} {zs : List Nat} {i : Nat} (h : ¬ i < zs.length) : endN l zs i = l.length := by unfold endN; rw [List.getElem?_eq_none (by omega)]; rfl
/-- the sum of a part is small -/
theorem seg_sum_le {l : List Int} (hok : ∀ z ∈ l, -1000000 ≤ z ∧ z ≤ 1000000) (hl : l.length ≤ 7) (i j : Nat) : -7000000 ≤ (segL l i j).sum ∧ (segL l i j).sum ≤ 7000000 := by
  have h : ∀ xs : List Int, (∀ z ∈ xs, -1000000 ≤ z ∧ z ≤ 1000000) → -1000000 * (xs.length : Int) ≤ xs.sum ∧ xs.sum ≤ 1000000 * (xs.length : Int) := by
    intro xs
    induction xs with
    | nil => intro _; simp
    | cons x xs ih =>
      intro hx
      have h1 := ih fun z hz => hx z (by simp [hz])
      have h2 := hx x (by simp)
      rw [List.sum_cons, List.length_cons]
      omega
  have hs : (segL l i j).length ≤ 7 := by unfold segL; rw [List.length_take, List.length_drop]; omega
  have := h (segL l i j) fun z hz => hok z (by unfold segL at hz; exact List.mem_of_mem_drop (List.mem_of_mem_take hz))
  omega
theorem t4_5 {x : Nat} (h : x ≤ 10000000000000000) : x < T4 ^ 5 := Nat.lt_of_le_of_lt h (by unfold T4; decide +kernel)
theorem sz_mn {l : List Int} (hok : ∀ z ∈ l, -1000000 ≤ z ∧ z ≤ 1000000) (hl : l.length ≤ 7) {f t : Nat} (hft : f < t) (ht : t ≤ l.length) : Sz 5 (mnR l f t) := by
  have h1 := seg_sum_le hok hl f t
  have h2 : (segL l f t).sum.natAbs ≤ 7000000 := by omega
  have h3 : t - f ≤ 7 := by omega
  exact sz_part (by omega) (t4_5 (Nat.le_trans h2 (by decide))) (t4_5 (Nat.le_trans h3 (by decide)))
theorem sz_sq {m : Rat} {z : Int} (hz : -1000000 ≤ z ∧ z ≤ 1000000) (hm : Sz 5 m) : Sz 5 (z : Rat) ∧ Sz 11 ((z : Rat) - m) ∧ Sz 22 (((z : Rat) - m) * ((z : Rat) - m)) := by
  have h0 : z.natAbs ≤ 1000000 := by obtain ⟨g1, g2⟩ := hz; clear hm; omega
  have h1 : Sz 5 (z : Rat) := sz_int (by omega) (t4_5 (Nat.le_trans h0 (by decide)))
  have h2 : Sz (5 + 5 + 1) ((z : Rat) - m) := sz_sub h1 hm
  have h3 : Sz (11 + 11) (((z : Rat) - m) * ((z : Rat) - m)) := sz_mul h2 h2
  exact ⟨h1, h2, h3⟩
/-- what the program returns is the least division -/
theorem least_any {l : List Int} {pen : Int} (h0 : 0 < l.length) {zs : List Nat} (hv : Val 0 l.length zs) :
    ¬ costR l pen.toNat 0 zs < costR l pen.toNat 0 (chB l pen).2 ∧ (costR l pen.toNat 0 zs = costR l pen.toNat 0 (chB l pen).2 → (chB l pen).2.length ≤ zs.length) := by
  have hD := cmn_pos l.length
  have hm := chB_min (pen := pen) h0
  have hk := hm.2.2 zs hv
  have hd : ∀ k, 1 ≤ k → k ≤ l.length → k ∣ cmn l.length := fun k g1 g2 => cmn_dvd g1 g2
  have e1 := cst_rat (l := l) (D := cmn l.length) (pen := pen.toNat) hD hd zs 0 h0 hv
  have e2 := cst_rat (l := l) (D := cmn l.length) (pen := pen.toNat) hD hd (chB l pen).2 0 h0 hm.1
  have e3 : (chB l pen).1 = cst (cS l (cmn l.length)) (cmn l.length * pen.toNat) 0 (chB l pen).2 l.length := hm.2.1
  have hk' : leK (chB l pen) (cst (cS l (cmn l.length)) (cmn l.length * pen.toNat) 0 zs l.length, zs) := hk
  obtain ⟨a, ha⟩ : ∃ a, a = cst (cS l (cmn l.length)) (cmn l.length * pen.toNat) 0 zs l.length := ⟨_, rfl⟩
  rw [← ha] at e1 hk'
  rw [← e3] at e2
  obtain ⟨d, hdd⟩ : ∃ d : Nat, d = cmn l.length := ⟨_, rfl⟩
  rw [← hdd] at e1 e2 hD
  have hdp : (0 : Rat) < (d : Rat) := by exact_mod_cast hD
  refine ⟨fun hlt => ?_, fun he => ?_⟩
  · have h4 := (Rat.mul_lt_mul_left hdp).2 hlt
    rw [← e1, ← e2] at h4
    have h5 : a < (chB l pen).1 := by exact_mod_cast h4
    rcases hk' with h6 | ⟨h6, _⟩
    · simp only at h6; omega
    · simp only at h6; omega
  · have h4 : (a : Rat) = ((chB l pen).1 : Rat) := by rw [e1, e2, he]
    have h5 : a = (chB l pen).1 := by exact_mod_cast h4
    rcases hk' with h6 | ⟨_, h6 | ⟨h6, _⟩⟩
    · simp only at h6; omega
    · simp only at h6; omega
    · simp only at h6; omega
theorem Val.up : ∀ {i j m : Nat} {r : List Nat}, Val i j r → j ≤ m → Val i m r
  | _, _, _, [], _, _ => trivial
  | i, j, m, k :: r, h, hm => ⟨h.1, by have := h.2.1; omega, Val.up h.2.2 hm⟩
end Go.Proofs.YtnpfdelklolchaaGreatDoor

/- Pairs of fractions of the reference in two variables: what stores leave. -/
namespace Go.Proofs.YtnpfdelklolchaaGreatDoor
open Go Go.RowKit Go.Proofs

end Go.Proofs.YtnpfdelklolchaaGreatDoor

/- The reference's fractions as values and in boxes. -/
namespace Go.Proofs.YtnpfdelklolchaaGreatDoor
open Go Go.RowKit Go.Proofs

theorem FracR.shape {w : World} {v : Value} {q : Rat} (h : FracR w v q) : ∃ b A1 c1 l1 A2 c2 l2, v = .agg #[.bool b, .slice A1 (l1 : List Nat).length c1, .slice A2 (l2 : List Nat).length c2] := by
  obtain ⟨A1, c1, l1, A2, c2, l2, h1, _⟩ := h
  exact ⟨_, A1, c1, l1, A2, c2, l2, h1⟩
theorem VarQ.get {w : World} {B : Nat} {q : Rat} (h : VarQ w B q) : ∃ b A1 c1 l1 A2 c2 l2, (∀ W, Below w.heap.size w W → W.cell? ⟨B, 0, none⟩ = some (.bool b) ∧ W.cell? ⟨B, 1, none⟩ = some (.slice A1 (l1 : List Nat).length c1) ∧ W.cell? ⟨B, 2, none⟩ = some (.slice A2 (l2 : List Nat).length c2) ∧ W.frozen? ⟨B, 0, none⟩ = false ∧ W.frozen? ⟨B, 1, none⟩ = false ∧ W.frozen? ⟨B, 2, none⟩ = false ∧ B < W.heap.size) ∧ FracR w (.agg #[.bool b, .slice A1 l1.length c1, .slice A2 l2.length c2]) q := by
  obtain ⟨A1, c1, l1, A2, c2, l2, e, h1, h2⟩ := h
  refine ⟨_, A1, c1, l1, A2, c2, l2, fun W hW => ?_, A1, c1, l1, A2, c2, l2, rfl, h1, h2⟩
  have e' := (hW.block B (heap_lt e)).trans e
  exact ⟨by rw [cellsAt e']; rfl, by rw [cellsAt e']; rfl, by rw [cellsAt e']; rfl, frozenAt e' 0, frozenAt e' 1, frozenAt e' 2, heap_lt e'⟩
theorem VarQ.raw {w : World} {B : Nat} {q : Rat} (h : VarQ w B q) : ∃ b A1 d1 c1 A2 d2 c2, w.heap[B]? = some (.cells #[.bool b, .slice A1 d1 c1, .slice A2 d2 c2] 31 (0, 0)) := by
  obtain ⟨A1, c1, l1, A2, c2, l2, e, h1, h2⟩ := h
  exact ⟨_, _, _, _, _, _, _, e⟩
theorem VarQ.laid {w : World} {b : Bool} {A1 A2 : Option Addr} {c1 c2 : Nat} {l1 l2 : List Nat} {q : Rat} (h : FracR w (.agg #[.bool b, .slice A1 l1.length c1, .slice A2 l2.length c2]) q) : VarQ (w.alloc (.cells #[.bool b, .slice A1 l1.length c1, .slice A2 l2.length c2] 31)) w.heap.size q := by
  obtain ⟨A3, c3, l3, A4, c4, l4, e, h1, h2⟩ := h
  have hb : Below w.heap.size w (w.alloc (.cells #[.bool b, .slice A1 l1.length c1, .slice A2 l2.length c2] 31)) := (Below.refl _ w).alloc (Nat.le_refl _) _
  refine ⟨A3, c3, l3, A4, c4, l4, ?_, h1.on hb, h2.on hb⟩
  simp only [Value.agg.injEq, Array.mk.injEq, List.cons.injEq, and_true] at e
  obtain ⟨e1, e2, e3⟩ := e
  rw [e1, e2, e3]
  exact alloc_at _ _ _ rfl
theorem VarQ.store {w : World} {B : Nat} {b b0 : Bool} {A1 A2 : Option Addr} {c1 c2 : Nat} {l1 l2 : List Nat} {B1 B2 : Option Addr} {d1 d2 e1 e2 : Nat} {q : Rat} (hX : w.heap[B]? = some (.cells #[.bool b0, .slice B1 d1 e1, .slice B2 d2 e2] 31 (0, 0))) (h : FracR w (.agg #[.bool b, .slice A1 l1.length c1, .slice A2 l2.length c2]) q) :
    VarQ (((w.setCell ⟨B, 0, none⟩ (.bool b)).setCell ⟨B, 1, none⟩ (.slice A1 l1.length c1)).setCell ⟨B, 2, none⟩ (.slice A2 l2.length c2)) B q := by
  obtain ⟨A3, c3, l3, A4, c4, l4, e, h1, h2⟩ := h
  simp only [Value.agg.injEq, Array.mk.injEq, List.cons.injEq, and_true] at e
  obtain ⟨e1, e2, e3⟩ := e
  rw [e1, e2, e3]
  exact varq_set hX (fun z => ⟨by simp, by simp, by simp⟩) h1 h2
/-- a store into one box leaves what lies in the other one -/
theorem VarQ.far {w : World} {B B' : Nat} {p q : Rat} (h : VarQ w B p) (h2 : VarQ w B' q) (hB : B ≠ B') (a0 a1 a2 : Value) : VarQ (((w.setCell ⟨B', 0, none⟩ a0).setCell ⟨B', 1, none⟩ a1).setCell ⟨B', 2, none⟩ a2) B p := by
  obtain ⟨b, A1, d1, c1, A2, d2, c2, e⟩ := h2.raw
  exact varq_far h e (fun z => ⟨by simp, by simp, by simp⟩) hB
theorem VarQ.lt {w : World} {B : Nat} {q : Rat} (h : VarQ w B q) : B < w.heap.size := by
  obtain ⟨b, A1, d1, c1, A2, d2, c2, e⟩ := h.raw
  exact heap_lt e
/-- stored into the box of the result -/
theorem fq_ret {w0 w W : World} {B : Nat} {b : Bool} {A1 A2 : Option Addr} {c1 c2 : Nat} {l1 l2 : List Nat} {q : Rat} (hB : FBox w B) (h : FracR w (.agg #[.bool b, .slice A1 l1.length c1, .slice A2 l2.length c2]) q) (hbl : Below w0.heap.size w0 w) (h0 : w0.heap.size ≤ B) (hf : Fr (fun i => i = B) w W) : FracR W (.agg #[.bool b, .slice A1 l1.length c1, .slice A2 l2.length c2]) q ∧ Below w0.heap.size w0 W := by
  obtain ⟨A3, c3, l3, A4, c4, l4, e, h1, h2⟩ := h
  rw [e]
  exact frac_ret hB rfl h1 h2 hbl h0 hf
end Go.Proofs.YtnpfdelklolchaaGreatDoor

/- One operation of a drawn region, where it comes up: what it does as a closed fact for the kernel. No program in sight. -/
namespace Go.Proofs.YtnpfdelklolchaaGreatDoor
open Go Go.RowKit

section
variable {P : Program} {Q : Exit → Act → World → Prop}
end
end Go.Proofs.YtnpfdelklolchaaGreatDoor

/- Rows of fractions in memory ([]fraction): no cell of such a row is an integer, so no number lies in the row's own block. -/
namespace Go.Proofs.YtnpfdelklolchaaGreatDoor
open Go Go.RowKit Go.Proofs

/-- a cell that is no integer -/
def NoI (u : Value) : Prop := ∀ k z, u ≠ .int k z
/-- three cells that are a fraction -/
structure Fc where
  A1 : Option Addr
  c1 : Nat
  l1 : List Nat
  x : Nat
  A2 : Option Addr
  c2 : Nat
  l2 : List Nat
  y : Nat
def Fc.v (h : Fc) : List Value := [.bool false, .slice h.A1 h.l1.length h.c1, .slice h.A2 h.l2.length h.c2]
def fcCells (l : List Fc) : List Value := l.flatMap (·.v)
theorem fcCells_length : ∀ l : List Fc, (fcCells l).length = l.length * 3
  | [] => rfl
  | h :: l => by
    have := fcCells_length l
    unfold fcCells at *
    rw [List.flatMap_cons, List.length_append, this, List.length_cons]
    simp [Fc.v]; omega
theorem fcCells_at : ∀ (l : List Fc) (i : Nat) (h : Fc), l[i]? = some h → (fcCells l)[i * 3]? = some (.bool false) ∧ (fcCells l)[i * 3 + 1]? = some (.slice h.A1 h.l1.length h.c1) ∧ (fcCells l)[i * 3 + 2]? = some (.slice h.A2 h.l2.length h.c2)
  | [], i, h, e => by simp at e
  | g :: l, 0, h, e => by
    simp at e; subst e
    simp [fcCells, Fc.v]
  | g :: l, i + 1, h, e => by
    have ih := fcCells_at l i h (by simpa using e)
    have hc : fcCells (g :: l) = g.v ++ fcCells l := by simp [fcCells]
    have hl : g.v.length = 3 := rfl
    rw [hc]
    refine ⟨?_, ?_, ?_⟩
    · rw [List.getElem?_append_right (by rw [hl]; omega), hl, show (i + 1) * 3 - 3 = i * 3 by omega]; exact ih.1
    · rw [List.getElem?_append_right (by rw [hl]; omega), hl, show (i + 1) * 3 + 1 - 3 = i * 3 + 1 by omega]; exact ih.2.1
    · rw [List.getElem?_append_right (by rw [hl]; omega), hl, show (i + 1) * 3 + 2 - 3 = i * 3 + 2 by omega]; exact ih.2.2
theorem noI_v (h : Fc) : ∀ u ∈ h.v, NoI u := by
  intro u hu k z
  simp [Fc.v] at hu
  rcases hu with rfl | rfl | rfl <;> simp
theorem noI_cells (l : List Fc) : ∀ u ∈ fcCells l, NoI u := by
  intro u hu
  unfold fcCells at hu
  obtain ⟨h, _, hh⟩ := List.mem_flatMap.1 hu
  exact noI_v h u hh
abbrev zF : Value := .agg #[.bool false, .slice none 0 0, .slice none 0 0]
theorem noI_zero (n : Nat) : ∀ u ∈ (Builtin.zeroCells zF.cells n).toList, NoI u := by
  intro u hu k z
  unfold Builtin.zeroCells at hu
  simp only [Array.toList_map, List.mem_map] at hu
  obtain ⟨i, _, rfl⟩ := hu
  have h3 : i % 3 = 0 ∨ i % 3 = 1 ∨ i % 3 = 2 := by omega
  rcases h3 with h | h | h <;> simp [zF, Value.cells, h]
theorem zeroCells_size (n : Nat) : (Builtin.zeroCells zF.cells n).size = n * 3 := by simp [Builtin.zeroCells, zF, Value.cells]
/-- a row of fractions of one's own -/
def RowFc (w : World) (base : Nat) (e : TypeId) (v : Value) (xs : List Fc) : Prop :=
  (v = .slice none 0 0 ∧ xs = []) ∨
  ∃ g cap cs, v = .slice (some ⟨g, 0, none⟩) xs.length cap ∧ base ≤ g ∧ w.heap[g]? = some (.cells cs e (0, 0)) ∧ xs.length ≤ cap ∧ cap ≤ maxLen ∧ cs.size = cap * 3 ∧ cs.toList.take (xs.length * 3) = fcCells xs ∧ ∀ u ∈ cs.toList, NoI u
section
variable {w w' : World} {base : Nat} {e : TypeId} {v : Value} {xs : List Fc}
theorem RowFc.own (h : RowFc w base e v xs) : w.ownsRow base e 3 v xs.length (fcCells xs) := by
  refine ⟨fcCells_length xs, ?_⟩
  rcases h with ⟨rfl, rfl⟩ | ⟨g, cap, cs, rfl, hb, hg, h1, h2, h3, h4, _⟩
  · exact .inl ⟨rfl, rfl⟩
  · exact .inr ⟨g, cap, cs, rfl, hb, hg, h1, h2, h3, h4⟩
theorem RowFc.block (h : RowFc w base e v xs) {i : Nat} (hi : some i = v.ownBlock) : base ≤ i ∧ i < w.heap.size := ownsRow_block h.own hi
theorem RowFc.below (h : RowFc w base e v xs) (hb : Below w.heap.size w w') : RowFc w' base e v xs := by
  rcases h with h0 | ⟨g, cap, cs, hv, hg, hh, hr⟩
  · exact .inl h0
  · exact .inr ⟨g, cap, cs, hv, hg, (hb.block g (heap_lt hh)).trans hh, hr⟩
theorem RowFc.mono {base' : Nat} (h : RowFc w base e v xs) (hb : base' ≤ base) : RowFc w base' e v xs := by
  rcases h with h0 | ⟨g, cap, cs, hv, hg, hr⟩
  · exact .inl h0
  · exact .inr ⟨g, cap, cs, hv, Nat.le_trans hb hg, hr⟩
theorem RowFc.of_new (w : World) (base : Nat) (e : TypeId) (ys : List Fc) (cap n : Nat) (hb : base ≤ w.heap.size) (h1 : ys.length + n = cap) (h2 : cap ≤ maxLen) :
    RowFc (w.alloc (.cells ((fcCells ys).toArray ++ Builtin.zeroCells zF.cells n) e)) base e (.slice (some ⟨w.heap.size, 0, none⟩) ys.length cap) ys := by
  refine .inr ⟨w.heap.size, cap, _, rfl, hb, alloc_at _ _ _ rfl, by omega, h2, ?_, ?_, fun u hu => ?_⟩
  · rw [Array.size_append, zeroCells_size, List.size_toArray, fcCells_length]; omega
  · rw [Array.toList_append, List.toList_toArray, List.take_append_of_le_length (by rw [fcCells_length]; omega), List.take_of_length_le (by rw [fcCells_length]; omega)]
  · rw [Array.toList_append, List.toList_toArray, List.mem_append] at hu
    rcases hu with hu | hu
    · exact noI_cells ys u hu
    · exact noI_zero n u hu
/-- no number lies in the row's block -/
theorem RowFc.cells (hr : RowFc w base e v xs) {b j : Nat} {u : Value} (hv : v.ownBlock = some b) (hc : w.cell? ⟨b, j, none⟩ = some u) : NoI u := by
  rcases hr with ⟨rfl, _⟩ | ⟨g, cap, cs, rfl, _, hg, _, _, _, _, hno⟩
  · cases hv
  · simp only [Value.ownBlock, Option.some.injEq] at hv
    subst hv
    rw [cellsAt hg] at hc
    exact hno u (Array.mem_toList_iff.2 (Array.mem_of_getElem? hc))
theorem NatR.rowf {A : Option Addr} {c x : Nat} {l : List Nat} (h : NatR w A c l x) (hr : RowFc w base e v xs) (hg : w.grownBy w' v.ownBlock) : NatR w' A c l x := by
  refine ⟨⟨h.rd.1, fun hl => ?_⟩, h.norm, h.val, h.cap, h.max, h.nil⟩
  obtain ⟨b, o, e', h1, h2, hc⟩ := h.rd.2 hl
  refine ⟨b, o, e', h1, Nat.lt_of_lt_of_le h2 hg.size, fun j u hj => ?_⟩
  rw [← hc j u hj]
  refine World.cell?_of_block (hg.block b h2 (fun hb => ?_))
  have hu := hr.cells hb.symm (hc j u hj)
  unfold u64s at hj
  obtain ⟨d, _, rfl⟩ := List.mem_map.1 (List.mem_of_getElem? hj)
  exact hu _ _ rfl
end
/-- with its numbers -/
def RowFr (w : World) (base : Nat) (e : TypeId) (v : Value) (xs : List Fc) : Prop := RowFc w base e v xs ∧ ∀ h ∈ xs, NatR w h.A1 h.c1 h.l1 h.x ∧ NatR w h.A2 h.c2 h.l2 h.y
section
variable {w w' : World} {base : Nat} {e : TypeId} {v v' : Value} {xs : List Fc} {y : Fc}
theorem RowFr.nil : RowFr w base e (.slice none 0 0) [] := ⟨.inl ⟨rfl, rfl⟩, fun _ h => by cases h⟩
theorem RowFr.call (h : RowFr w base e v xs) (hb : Below w.heap.size w w') : RowFr w' base e v xs := ⟨h.1.below hb, fun y hy => ⟨(h.2 y hy).1.on hb, (h.2 y hy).2.on hb⟩⟩
theorem RowFr.app (h : RowFr w base e v xs) (hy : NatR w y.A1 y.c1 y.l1 y.x) (hy2 : NatR w y.A2 y.c2 y.l2 y.y) (h' : RowFc w' base e v' (xs ++ [y])) (hg : w.grownBy w' v.ownBlock) : RowFr w' base e v' (xs ++ [y]) := by
  refine ⟨h', fun z hz => ?_⟩
  rw [List.mem_append, List.mem_singleton] at hz
  rcases hz with hz | rfl
  · exact ⟨(h.2 z hz).1.rowf h.1 hg, (h.2 z hz).2.rowf h.1 hg⟩
  · exact ⟨hy.rowf h.1 hg, hy2.rowf h.1 hg⟩
/-- an element's cells -/
theorem RowFr.at {i : Nat} {h : Fc} (hr : RowFr w base e v xs) (hi : xs[i]? = some h) : ∃ g cap, v = .slice (some ⟨g, 0, none⟩) xs.length cap ∧ g < w.heap.size ∧ w.cell? ⟨g, i * 3, none⟩ = some (.bool false) ∧ w.cell? ⟨g, i * 3 + 1, none⟩ = some (.slice h.A1 h.l1.length h.c1) ∧ w.cell? ⟨g, i * 3 + 2, none⟩ = some (.slice h.A2 h.l2.length h.c2) ∧ NatR w h.A1 h.c1 h.l1 h.x ∧ NatR w h.A2 h.c2 h.l2 h.y := by
  have hn := hr.2 h (List.mem_of_getElem? hi)
  have hil := (List.getElem?_eq_some_iff.1 hi).1
  obtain ⟨a0, a1, a2⟩ := fcCells_at xs i h hi
  rcases hr.1 with ⟨_, rfl⟩ | ⟨g, cap, cs, rfl, _, hg, _, _, _, htk, _⟩
  · simp at hi
  · have hcell : ∀ j u, (fcCells xs)[j]? = some u → w.cell? ⟨g, j, none⟩ = some u := by
      intro j u hj
      have hjl := (List.getElem?_eq_some_iff.1 hj).1
      rw [fcCells_length] at hjl
      rw [← htk, List.getElem?_take_of_lt hjl, Array.getElem?_toList] at hj
      rw [cellsAt hg]; exact hj
    exact ⟨g, cap, rfl, heap_lt hg, hcell _ _ a0, hcell _ _ a1, hcell _ _ a2, hn.1, hn.2⟩
end
end Go.Proofs.YtnpfdelklolchaaGreatDoor
