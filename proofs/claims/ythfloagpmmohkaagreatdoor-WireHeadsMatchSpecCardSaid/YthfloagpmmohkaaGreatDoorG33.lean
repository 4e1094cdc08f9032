import Derived.Test.YthfloagpmmohkaaGreatDoorMem
import Derived.Test.YthfloagpmmohkaaGreatDoorShelf
import Derived.Test.YthfloagpmmohkaaGreatDoorProg
import Derived.Handy
import Derived.WalkSpells
import Derived.WalkLawsBesides
import Derived.Deep.QuietTactic
import Derived.BigQuiet
import Derived.Laws.BytesString
import Derived.Lib.ItoaLen
import Derived.Lib.SlBytesRow
import Derived.Lib.BufferRead
import Derived.Lib.AppendIntMem
/- The state of a call's own memory: what was there before it is as it was, and the blocks of its own hold what is listed. -/
namespace Go.Proofs.YthfloagpmmohkaaGreatDoor
open Go Go.RowKit Go.Proofs

/-- since w nothing that was there has turned, and these blocks of the call's own hold these -/
structure St (w w' : World) (bs : List (Nat × Obj)) : Prop where
  below : Below w.heap.size w w'
  box : ∀ (i : Nat) b o, bs[i]? = some (b, o) → w.heap.size ≤ b ∧ w'.heap[b]? = some o

section
variable {w w' w'' : World} {bs : List (Nat × Obj)}
theorem St.start (w : World) : St w w [] := ⟨Below.refl _ _, fun i b o h => by simp at h⟩
theorem St.alloc (h : St w w' bs) (o : Obj) (b : Nat) (hb : b = w'.heap.size) : St w (w'.alloc o) (bs ++ [(b, o)]) := by
  refine ⟨h.below.alloc h.below.size _, fun i b' o' hi => ?_⟩
  rw [List.getElem?_append] at hi
  split at hi
  · have := h.box i b' o' hi
    exact ⟨this.1, (Below.heap_alloc _ _ _ (heap_lt this.2)).trans this.2⟩
  · rw [List.getElem?_singleton] at hi
    split at hi
    · have hi' := Option.some.inj hi
      obtain ⟨rfl, rfl⟩ := Prod.mk.inj hi'
      exact ⟨by have := h.below.size; omega, alloc_at _ _ _ hb⟩
    · cases hi
/-- a block that is not listed -/
theorem St.more (h : St w w' bs) (o : Obj) : St w (w'.alloc o) bs :=
  ⟨h.below.alloc h.below.size _, fun i b o hi => ⟨(h.box i b o hi).1, (Below.heap_alloc _ _ _ (heap_lt (h.box i b o hi).2)).trans (h.box i b o hi).2⟩⟩
theorem St.call (h : St w w' bs) (hb : Below w'.heap.size w' w'') : St w w'' bs :=
  ⟨h.below.trans (hb.mono h.below.size), fun i b o hi => ⟨(h.box i b o hi).1, (hb.block b (heap_lt (h.box i b o hi).2)).trans (h.box i b o hi).2⟩⟩
theorem St.fr {may : Nat → Prop} (h : St w w' bs) (hf : Fr may w' w'') (hm : ∀ (i : Nat) b o, bs[i]? = some (b, o) → ¬ may b) (h0 : ∀ i, may i → w.heap.size ≤ i) : St w w'' bs :=
  ⟨h.below.trans (hf.below h.below.size (fun i hi hm' => by have := h0 i hm'; omega)), fun i b o hi => ⟨(h.box i b o hi).1, (hf.block b (heap_lt (h.box i b o hi).2) (hm i b o hi)).trans (h.box i b o hi).2⟩⟩
theorem St.drewN (h : St w w' bs) (n : Nat) : St w (w'.drewN n) bs := ⟨below_drewN h.below n, h.box⟩
theorem St.drew (h : St w w' bs) : St w w'.drew bs := ⟨h.below.drew, h.box⟩
theorem St.set (h : St w w' bs) (i j : Nat) (u : Value) {b : Nat} {cs : Array Value} {t : TypeId} {fz : Nat × Nat} (hi : bs[i]? = some (b, .cells cs t fz)) (hd : ∀ (k : Nat) b' o', bs[k]? = some (b', o') → k ≠ i → b' ≠ b) :
    St w (w'.setCell ⟨b, j, none⟩ u) (bs.set i (b, .cells (cs.setIfInBounds j u) t fz)) := by
  refine ⟨h.below.setCell (h.box i _ _ hi).1 _, fun k b' o' hk => ?_⟩
  rw [List.getElem?_set] at hk
  split at hk
  · rename_i e
    subst e
    split at hk
    · have hi' := Option.some.inj hk
      obtain ⟨rfl, rfl⟩ := Prod.mk.inj hi'
      refine ⟨(h.box _ _ _ hi).1, ?_⟩
      have := (h.box _ _ _ hi).2
      simp [World.setCell, Array.getElem?_modify, this]
    · cases hk
  · rename_i e
    have hx := h.box k b' o' hk
    exact ⟨hx.1, (Below.heap_setCell _ _ _ _ (hd k b' o' hk (fun e' => e e'.symm))).trans hx.2⟩
theorem St.cell (h : St w w' bs) (i j : Nat) {b : Nat} {cs : Array Value} {t : TypeId} {u : Value} (hi : bs[i]? = some (b, .cells cs t (0, 0))) (hj : cs[j]? = some u) : w'.cell? ⟨b, j, none⟩ = some u := by
  rw [cellsAt (h.box i _ _ hi).2, hj]
theorem St.lt (h : St w w' bs) (i : Nat) {b : Nat} {o : Obj} (hi : bs[i]? = some (b, o)) : b < w'.heap.size := heap_lt (h.box i _ _ hi).2
theorem St.at (h : St w w' bs) (i : Nat) {b : Nat} {o : Obj} (hi : bs[i]? = some (b, o)) : w'.heap[b]? = some o := (h.box i _ _ hi).2
theorem St.old (h : St w w' bs) (hb : Below w'.heap.size w' w'') : Below w.heap.size w w'' := (h.call hb).below
theorem Rd.old {k n : Nat} {A : Option Addr} {xs : List Value} (h : Rd w 0 w.heap.size k A n xs) (hb : Below w.heap.size w w') : Rd w' 0 w'.heap.size k A n xs := (h.below hb (Nat.le_refl _)).more (Nat.le_refl _) hb.size
/-- the list, shortened to what is still needed -/
theorem St.pick (h : St w w' bs) (bs' : List (Nat × Obj)) (hs : ∀ x ∈ bs', x ∈ bs) : St w w' bs' :=
  ⟨h.below, fun i b o hi => by
    obtain ⟨j, hj⟩ := List.getElem?_of_mem (hs _ (List.mem_of_getElem? hi))
    exact h.box j b o hj⟩
theorem St.take (h : St w w' bs) (n : Nat) : St w w' (bs.take n) :=
  h.pick _ (fun _ hx => List.mem_of_mem_take hx)
end
end Go.Proofs.YthfloagpmmohkaaGreatDoor

/- The table of strconv's digits in memory. -/
namespace Go.Proofs.YthfloagpmmohkaaGreatDoor
open Go Go.RowKit Go.Proofs Go.Maps

/-- the table that AppendInt reads, kept by whatever leaves the blocks below B alone -/
def Tab (B : Nat) (w : World) : Prop := Lib.TabBelow Tryz.prog B w "internal/strconv.uint64pow10" .u64 Lib.pow10Tab
theorem Tab.on {B : Nat} {w w' : World} (h : Tab B w) (hb : Below B w w') : Tab B w' := Lib.TabBelow.on h hb
theorem Tab.mono {B B' : Nat} {w : World} (h : Tab B w) (hB : B ≤ B') : Tab B' w := fun w' hb => h w' (hb.mono hB)

end Go.Proofs.YthfloagpmmohkaaGreatDoor
