/- append of one element to a row of the call's own whose slice lies in a field of a box: what holds behind it. -/
import Derived.Test.YtgmbgclhljobaaaDoorMem
namespace Go.Proofs.YtgmbgclhljobaaaDoor
open Go Go.RowKit Go.Proofs

theorem app_after {wr w2 : World} {v v' : Value} {base H n k : Nat} {t e : TypeId} {xs ys : List Value} {cs : Array Value} {o : Obj} (hown : wr.ownsRow base e k v n xs) (hbox : wr.heap[H]? = some (.cells cs t (0, 0))) (hH : H < base)
    (hown' : w2.ownsRow base e k v' (n + 1) ys) (hgrow : (wr.alloc o).grownBy w2 v.ownBlock) :
    ∃ g cap, v' = .slice (some ⟨g, 0, none⟩) (n + 1) cap ∧ base ≤ g ∧ g ≠ H ∧ w2.heap[H]? = some (.cells cs t (0, 0)) ∧ Fr (fun i => some i = v.ownBlock) wr w2 ∧ wr.heap.size + 1 ≤ w2.heap.size := by
  obtain ⟨g, cap, rfl, hgb, hgl, _, _⟩ := ownsRow_some hown' (by omega)
  have hfg := Fr.of_grown hgrow
  have hne : ¬ some H = v.ownBlock := fun hv => by have := (ownsRow_block hown hv).1; omega
  have hHs := heap_lt hbox
  refine ⟨g, cap, rfl, hgb, by omega, ?_, ?_, by have := hgrow.size; simpa using this⟩
  · rw [hfg.block H (by simp; omega) hne]
    exact (Below.heap_alloc _ _ _ hHs).trans hbox
  · exact Fr.trans ((Fr.refl _ wr).alloc o) hfg (fun i _ hi => hi)
theorem box_store {w : World} {H : Nat} {cs : Array Value} {t : TypeId} {fz : Nat × Nat} (h : w.heap[H]? = some (.cells cs t fz)) (i : Nat) (u : Value) : (w.setCell ⟨H, i, none⟩ u).heap[H]? = some (.cells (cs.setIfInBounds i u) t fz) := by
  simp [World.setCell, Array.getElem?_modify, h]
theorem box_far {w : World} {H : Nat} {o : Obj} (h : w.heap[H]? = some o) {p : Addr} (hp : H ≠ p.block) (u : Value) : (w.setCell p u).heap[H]? = some o := (Below.heap_setCell w p u H hp).trans h
theorem row_store {w : World} {base H n k : Nat} {e : TypeId} {v : Value} {xs : List Value} (h : w.ownsRow base e k v n xs) (hH : H < base) (i : Nat) (u : Value) : (w.setCell ⟨H, i, none⟩ u).ownsRow base e k v n xs :=
  ownsRow_fr h ((Fr.refl (fun j => j = H) w).setCell (p := ⟨H, i, none⟩) (fun _ => rfl) u) (fun j hj => by have := (ownsRow_block h hj).1; omega)
end Go.Proofs.YtgmbgclhljobaaaDoor
