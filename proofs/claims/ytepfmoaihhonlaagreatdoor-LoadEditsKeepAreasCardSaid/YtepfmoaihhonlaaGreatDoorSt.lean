/- The state of a call's own memory: what was there before it is as it was, and the blocks of its own hold what is listed. -/
import Derived.Test.YtepfmoaihhonlaaGreatDoorMem
namespace Go.Proofs.YtepfmoaihhonlaaGreatDoor
open Go Go.RowKit Go.Proofs

/-- since w nothing that was there has turned, and these blocks of the call's own hold these -/
structure St (w w' : World) (bs : List (Nat × Obj)) : Prop where
  below : Below w.heap.size w w'
  box : ∀ (i : Nat) b o, bs[i]? = some (b, o) → w.heap.size ≤ b ∧ w'.heap[b]? = some o

theorem below_next {W X Y : World} (h1 : Below W.heap.size W X) (h2 : Below X.heap.size X Y) : Below W.heap.size W Y := h1.trans (h2.mono h1.size)
section
variable {w w' w'' : World} {bs : List (Nat × Obj)}
theorem St.start (w : World) : St w w [] := ⟨Below.refl _ _, fun i b o h => by simp at h⟩
theorem St.alloc (h : St w w' bs) (o : Obj) (b : Nat) (hb : b = w'.heap.size) : St w (w'.alloc o) (bs ++ [(b, o)]) := by
  refine ⟨h.below.alloc h.below.size _, fun i b' o' hi => ?_⟩
  rw [List.getElem?_append] at hi
  split at hi
  · have := h.box i b' o' hi
    exact ⟨this.1, (Below.heap_alloc _ _ _ (heap_lt this.2)).trans this.2⟩
  · rw [List.getElem?_singleton] at hi
    split at hi
    · have hi' := Option.some.inj hi
      obtain ⟨rfl, rfl⟩ := Prod.mk.inj hi'
      exact ⟨by have := h.below.size; omega, alloc_at _ _ _ hb⟩
    · cases hi
/-- a block that is not listed -/
theorem St.more (h : St w w' bs) (o : Obj) : St w (w'.alloc o) bs :=
  ⟨h.below.alloc h.below.size _, fun i b o hi => ⟨(h.box i b o hi).1, (Below.heap_alloc _ _ _ (heap_lt (h.box i b o hi).2)).trans (h.box i b o hi).2⟩⟩
theorem St.call (h : St w w' bs) (hb : Below w'.heap.size w' w'') : St w w'' bs :=
  ⟨h.below.trans (hb.mono h.below.size), fun i b o hi => ⟨(h.box i b o hi).1, (hb.block b (heap_lt (h.box i b o hi).2)).trans (h.box i b o hi).2⟩⟩
theorem St.fr {may : Nat → Prop} (h : St w w' bs) (hf : Fr may w' w'') (hm : ∀ (i : Nat) b o, bs[i]? = some (b, o) → ¬ may b) (h0 : ∀ i, may i → w.heap.size ≤ i) : St w w'' bs :=
  ⟨h.below.trans (hf.below h.below.size (fun i hi hm' => by have := h0 i hm'; omega)), fun i b o hi => ⟨(h.box i b o hi).1, (hf.block b (heap_lt (h.box i b o hi).2) (hm i b o hi)).trans (h.box i b o hi).2⟩⟩
theorem St.drewN (h : St w w' bs) (n : Nat) : St w (w'.drewN n) bs := ⟨below_drewN h.below n, h.box⟩
theorem St.drew (h : St w w' bs) : St w w'.drew bs := ⟨h.below.drew, h.box⟩
theorem St.set (h : St w w' bs) (i j : Nat) (u : Value) {b : Nat} {cs : Array Value} {t : TypeId} {fz : Nat × Nat} (hi : bs[i]? = some (b, .cells cs t fz)) (hd : ∀ (k : Nat) b' o', bs[k]? = some (b', o') → k ≠ i → b' ≠ b) :
    St w (w'.setCell ⟨b, j, none⟩ u) (bs.set i (b, .cells (cs.setIfInBounds j u) t fz)) := by
  refine ⟨h.below.setCell (h.box i _ _ hi).1 _, fun k b' o' hk => ?_⟩
  rw [List.getElem?_set] at hk
  split at hk
  · rename_i e
    subst e
    split at hk
    · have hi' := Option.some.inj hk
      obtain ⟨rfl, rfl⟩ := Prod.mk.inj hi'
      refine ⟨(h.box _ _ _ hi).1, ?_⟩
      have := (h.box _ _ _ hi).2
      simp [World.setCell, Array.getElem?_modify, this]
    · cases hk
  · rename_i e
    have hx := h.box k b' o' hk
    exact ⟨hx.1, (Below.heap_setCell _ _ _ _ (hd k b' o' hk (fun e' => e e'.symm))).trans hx.2⟩
theorem St.cell (h : St w w' bs) (i j : Nat) {b : Nat} {cs : Array Value} {t : TypeId} {u : Value} (hi : bs[i]? = some (b, .cells cs t (0, 0))) (hj : cs[j]? = some u) : w'.cell? ⟨b, j, none⟩ = some u := by
  rw [cellsAt (h.box i _ _ hi).2, hj]
theorem St.frozen (h : St w w' bs) (i j : Nat) {b : Nat} {cs : Array Value} {t : TypeId} (hi : bs[i]? = some (b, .cells cs t (0, 0))) : w'.frozen? ⟨b, j, none⟩ = false := frozenAt (h.box i _ _ hi).2 j
theorem St.lt (h : St w w' bs) (i : Nat) {b : Nat} {o : Obj} (hi : bs[i]? = some (b, o)) : b < w'.heap.size := heap_lt (h.box i _ _ hi).2
theorem St.at (h : St w w' bs) (i : Nat) {b : Nat} {o : Obj} (hi : bs[i]? = some (b, o)) : w'.heap[b]? = some o := (h.box i _ _ hi).2
theorem St.grown {M : Nat} (h : St w w' bs) (hg : w'.grownBy w'' (some M)) (h0 : w.heap.size ≤ M) (hm : ∀ x ∈ bs, x.1 ≠ M) : St w w'' bs :=
  h.fr (Fr.of_grown hg) (fun i b o hi hb => by have hb : b = M := by simpa using hb
                                               exact hm _ (List.mem_of_getElem? hi) hb) (fun i hi => by have hi : i = M := by simpa using hi
                                                                                                        omega)
theorem St.old (h : St w w' bs) (hb : Below w'.heap.size w' w'') : Below w.heap.size w w'' := (h.call hb).below
theorem Rd.old {k n : Nat} {A : Option Addr} {xs : List Value} (h : Rd w 0 w.heap.size k A n xs) (hb : Below w.heap.size w w') : Rd w' 0 w'.heap.size k A n xs := (h.below hb (Nat.le_refl _)).more (Nat.le_refl _) hb.size
/-- a store into the block that is listed last -/
theorem St.setLast (bs : List (Nat × Obj)) (j : Nat) (u : Value) {b : Nat} {cs : Array Value} {t : TypeId} {fz : Nat × Nat} (h : St w w' (bs ++ [(b, .cells cs t fz)])) (hd : ∀ x ∈ bs, x.1 ≠ b) : St w (w'.setCell ⟨b, j, none⟩ u) (bs ++ [(b, .cells (cs.setIfInBounds j u) t fz)]) := by
  have := h.set bs.length j u (b := b) (cs := cs) (t := t) (fz := fz) (by simp) (fun k b' o' hk hne => by
    rw [List.getElem?_append] at hk
    split at hk
    · exact hd _ (List.mem_of_getElem? hk)
    · rw [List.getElem?_singleton] at hk
      split at hk
      · omega
      · cases hk)
  simpa using this
/-- behind an append to a row that lies behind the listed blocks -/
theorem St.app {base : Nat} {e : TypeId} {k n : Nat} {v : Value} {xs : List Value} (h : St w w' bs) (hown : w'.ownsRow base e k v n xs) (hg : w'.grownBy w'' v.ownBlock) (hb : ∀ x ∈ bs, x.1 < base) (h0 : w.heap.size ≤ base) : St w w'' bs :=
  h.fr (Fr.of_grown hg) (fun i b o hi hm => by have := hb _ (List.mem_of_getElem? hi); have := (ownsRow_block hown hm).1; simp only at *; omega) (fun i hi => by have := (ownsRow_block hown hi).1; omega)
/-- the list, shortened to what is still needed -/
theorem St.pick (h : St w w' bs) (bs' : List (Nat × Obj)) (hs : ∀ x ∈ bs', x ∈ bs) : St w w' bs' :=
  ⟨h.below, fun i b o hi => by
    obtain ⟨j, hj⟩ := List.getElem?_of_mem (hs _ (List.mem_of_getElem? hi))
    exact h.box j b o hj⟩
theorem St.take (h : St w w' bs) (n : Nat) : St w w' (bs.take n) :=
  h.pick _ (fun _ hx => List.mem_of_mem_take hx)
end
end Go.Proofs.YtepfmoaihhonlaaGreatDoor
