import Derived.StillTailTactics
import Derived.Test.YtnpfdelklolchaaGreatDoorG36
import Derived.Test.YtnpfdelklolchaaGreatDoorRDivMod
import Derived.Test.YtnpfdelklolchaaGreatDoorG16
import Derived.Test.YtnpfdelklolchaaGreatDoorG17
import Derived.Test.YtnpfdelklolchaaGreatDoorG15
import Derived.Test.YtnpfdelklolchaaGreatDoorRowD
import Derived.Test.YtnpfdelklolchaaGreatDoorG29
/- Package dynamometerref10: spread (the cost of a part of a list). -/
namespace Go.Proofs.YtnpfdelklolchaaGreatDoor
open Go Go.RowKit Go.Proofs

theorem sum_le {M : Nat} : ∀ {l : List Int}, (∀ z ∈ l, z.natAbs ≤ M) → l.sum.natAbs ≤ l.length * M
  | [], _ => by simp
  | x :: l, h => by
    have ih := sum_le (l := l) fun z hz => h z (by simp [hz])
    have h1 := h x (by simp)
    rw [List.sum_cons, List.length_cons, Nat.succ_mul]
    omega
end Go.Proofs.YtnpfdelklolchaaGreatDoor

/- Words for judge.Changes: rows of numbers by a function, the parts of a list from behind, a variable that holds a division. -/
namespace Go.Proofs.YtnpfdelklolchaaGreatDoor
open Go Go.RowKit Go.Proofs

/-- block g holds n numbers: f 0, f 1, .. -/
def NFn (w : World) (g n : Nat) (f : Nat → Nat) : Prop := ∃ ns : List Nm, ns.length = n ∧ NRow w g 61 ns ∧ ∀ k z, ns[k]? = some z → z.x = f k
section
variable {w w' : World} {g n : Nat} {f f' : Nat → Nat}
theorem NFn.lt (h : NFn w g n f) : g < w.heap.size := by obtain ⟨ns, _, h2, _⟩ := h; exact h2.lt
theorem NFn.on (h : NFn w g n f) (hb : Below w.heap.size w w') : NFn w' g n f := by
  obtain ⟨ns, h1, h2, h3⟩ := h
  exact ⟨ns, h1, h2.on hb, h3⟩
theorem NFn.congr (h : NFn w g n f) (he : ∀ k, k < n → f k = f' k) : NFn w g n f' := by
  obtain ⟨ns, h1, h2, h3⟩ := h
  exact ⟨ns, h1, h2, fun k z hk => (h3 k z hk).trans (he k (by have := (List.getElem?_eq_some_iff.1 hk).1; omega))⟩
theorem NFn.zero (h : VBlk w g 61 (List.replicate n (.slice none 0 0))) (hz : NatR w none 0 [] 0) : NFn w g n (fun _ => 0) :=
  ⟨_, by simp, NRow.zero w g n _ h hz, fun k z hk => by
    rw [List.getElem?_replicate] at hk
    split at hk
    · cases hk; rfl
    · cases hk⟩
theorem NFn.frozen (h : NFn w g n f) (k : Nat) : w.frozen? ⟨g, k, none⟩ = false := by obtain ⟨ns, _, h2, _⟩ := h; exact h2.1.frozen k
theorem NFn.get (h : NFn w g n f) {k : Nat} (hk : k < n) : ∃ A c l, (∀ X, Below w.heap.size w X → X.cell? ⟨g, k, none⟩ = some (.slice A (l : List Nat).length c)) ∧ NatR w A c l (f k) := by
  obtain ⟨ns, h1, h2, h3⟩ := h
  obtain ⟨z, hz⟩ : ∃ z, ns[k]? = some z := ⟨ns[k]'(by omega), List.getElem?_eq_getElem (by omega)⟩
  refine ⟨z.A, z.c, z.l, fun X hX => (h2.1.on hX).cell (nmCells_get hz), ?_⟩
  rw [← h3 k z hz]
  exact h2.2 z (List.mem_of_getElem? hz)
theorem NFn.set (h : NFn w g n f) {k : Nat} (hk : k < n) {A : Option Addr} {c x : Nat} {l : List Nat} (hx : NatR w A c l x) : NFn (w.setCell ⟨g, k, none⟩ (.slice A l.length c)) g n (fun i => if i = k then x else f i) := by
  obtain ⟨ns, h1, h2, h3⟩ := h
  refine ⟨ns.set k ⟨A, c, l, x⟩, by rw [List.length_set, h1], h2.set k ⟨A, c, l, x⟩ hx, fun i z hi => ?_⟩
  by_cases e : i = k
  · subst e
    rw [List.getElem?_set_self (by omega)] at hi
    cases hi
    simp
  · rw [List.getElem?_set_ne (Ne.symm e)] at hi
    show z.x = if i = k then x else f i
    rw [if_neg e]
    exact h3 i z hi
end
/-- one element more at the front of a part -/
theorem segL_step {l : List Int} {i j : Nat} {x : Int} (hij : i < j) (hx : l[i]? = some x) : segL l i j = x :: segL l (i + 1) j := by
  have hlt := (List.getElem?_eq_some_iff.1 hx).1
  unfold segL
  rw [List.drop_eq_getElem_cons hlt, (List.getElem?_eq_some_iff.1 hx).2, show j - i = (j - (i + 1)) + 1 by omega, List.take_succ_cons]
theorem segL_none (l : List Int) (j : Nat) : segL l j j = [] := by simp [segL]
theorem seg_next {l : List Int} {i j : Nat} {x : Int} (hij : i < j) (hx : l[i]? = some x) : (segL l i j).sum = (segL l (i + 1) j).sum + x ∧ sqs (segL l i j) = sqs (segL l (i + 1) j) + x * x := by
  rw [segL_step hij hx]
  constructor
  · rw [List.sum_cons, Int.add_comm]
  · unfold sqs
    rw [List.map_cons, List.sum_cons, Int.add_comm]
theorem segL_len_le (l : List Int) (i j : Nat) : (segL l i j).length ≤ j - i := by unfold segL; rw [List.length_take]; omega
/-- how great the sums are -/
theorem seg_bound {l : List Int} (h : ∀ z ∈ l, z.natAbs ≤ 1000000) {i j : Nat} (hj : j ≤ 300) : (segL l i j).sum.natAbs ≤ 300000000 ∧ 0 ≤ sqs (segL l i j) ∧ (sqs (segL l i j)).toNat ≤ 300000000000000 := by
  have hm : ∀ z ∈ segL l i j, z.natAbs ≤ 1000000 := fun z hz => h z (segL_mem hz)
  have h1 := sum_le hm
  have h2 := sqs_le hm
  have h3 := segL_len_le l i j
  exact ⟨by omega, sqs_nonneg _, by omega⟩
/-- a division is put into a variable -/
theorem DvB.put {w : World} {b : Nat} {T : TypeId} {h y : Dv} (hd : DvB w b T h) (hy : DvR w y) :
    DvB ((w.setCell ⟨b, 0, none⟩ (.slice y.A1 y.l1.length y.c1)).setCell ⟨b, 1, none⟩ (.slice y.A2 y.zs.length y.c2)) b T y ∧
    Fr (fun i => i = b) w ((w.setCell ⟨b, 0, none⟩ (.slice y.A1 y.l1.length y.c1)).setCell ⟨b, 1, none⟩ (.slice y.A2 y.zs.length y.c2)) := by
  have hf : Fr (fun i => i = b) w ((w.setCell ⟨b, 0, none⟩ (.slice y.A1 y.l1.length y.c1)).setCell ⟨b, 1, none⟩ (.slice y.A2 y.zs.length y.c2)) :=
    ((Fr.refl (fun i => i = b) w).setCell (p := ⟨b, 0, none⟩) (fun _ => rfl) _).setCell (p := ⟨b, 1, none⟩) (fun _ => rfl) _
  refine ⟨⟨?_, hy.frB hd hf⟩, hf⟩
  have e := hd.1
  simp [World.setCell, Array.getElem?_modify, e, Dv.v]
/-- .. its number alone -/
theorem DvB.put0 {w : World} {b : Nat} {T : TypeId} {h : Dv} (hd : DvB w b T h) {A : Option Addr} {c x : Nat} {l : List Nat} (hx : NatR w A c l x) :
    DvB (w.setCell ⟨b, 0, none⟩ (.slice A l.length c)) b T { h with A1 := A, c1 := c, l1 := l, x := x } ∧ Fr (fun i => i = b) w (w.setCell ⟨b, 0, none⟩ (.slice A l.length c)) := by
  have hf : Fr (fun i => i = b) w (w.setCell ⟨b, 0, none⟩ (.slice A l.length c)) := (Fr.refl (fun i => i = b) w).setCell (p := ⟨b, 0, none⟩) (fun _ => rfl) _
  have hy : DvR w { h with A1 := A, c1 := c, l1 := l, x := x } := ⟨hx, hd.2.2⟩
  refine ⟨⟨?_, hy.frB hd hf⟩, hf⟩
  have e := hd.1
  simp [World.setCell, Array.getElem?_modify, e, Dv.v]
/-- .. its list alone -/
theorem DvB.put1 {w : World} {b : Nat} {T : TypeId} {h : Dv} (hd : DvB w b T h) {A : Option Addr} {c : Nat} {zs : List Nat} (hz : PlR w A c zs) :
    DvB (w.setCell ⟨b, 1, none⟩ (.slice A zs.length c)) b T { h with A2 := A, c2 := c, zs := zs } ∧ Fr (fun i => i = b) w (w.setCell ⟨b, 1, none⟩ (.slice A zs.length c)) := by
  have hf : Fr (fun i => i = b) w (w.setCell ⟨b, 1, none⟩ (.slice A zs.length c)) := (Fr.refl (fun i => i = b) w).setCell (p := ⟨b, 1, none⟩) (fun _ => rfl) _
  have hy : DvR w { h with A2 := A, c2 := c, zs := zs } := ⟨hd.2.1, hz⟩
  refine ⟨⟨?_, hy.frB hd hf⟩, hf⟩
  have e := hd.1
  simp [World.setCell, Array.getElem?_modify, e, Dv.v]
/-- a new variable -/
theorem DvB.new {w : World} {T : TypeId} {y : Dv} (hy : DvR w y) : DvB (w.alloc (.cells y.v.toArray T)) w.heap.size T y := ⟨alloc_at _ _ _ rfl, hy.on ((Below.refl _ w).alloc (Nat.le_refl _) _)⟩
end Go.Proofs.YtnpfdelklolchaaGreatDoor
