/- Words for memory: frames, slices that read as lists, boxes. No program in sight. -/
import Derived.Below
import Derived.Laws.OwnMore
import Derived.Laws.IdiomCopy
import Derived.Deep.Draws
import Derived.Deep.Upon
import Derived.Laws.Rows
import Derived.Lib.Hide
namespace Go.Proofs.YthfloagpmmohkaaGreatDoor
open Go Go.RowKit

/-- w' is w with new blocks, and with other contents in the blocks that 'may' names. -/
structure Fr (may : Nat → Prop) (w w' : World) : Prop where
  os : w'.os = w.os
  tape : w'.tape = w.tape
  output : w'.output = w.output
  size : w.heap.size ≤ w'.heap.size
  block : ∀ i, i < w.heap.size → ¬ may i → w'.heap[i]? = w.heap[i]?

section
variable {may may' : Nat → Prop} {w w' w1 w2 : World}
theorem Fr.refl (may : Nat → Prop) (w : World) : Fr may w w := ⟨rfl, rfl, rfl, Nat.le_refl _, fun _ _ _ => rfl⟩
theorem Fr.trans (h1 : Fr may w w1) (h2 : Fr may' w1 w2) (h : ∀ i, i < w.heap.size → may' i → may i) : Fr may w w2 :=
  ⟨h2.os.trans h1.os, h2.tape.trans h1.tape, h2.output.trans h1.output, Nat.le_trans h1.size h2.size, fun i hi hm =>
    (h2.block i (Nat.lt_of_lt_of_le hi h1.size) (fun hm' => hm (h i hi hm'))).trans (h1.block i hi hm)⟩
theorem Fr.mono (h : Fr may w w') (hm : ∀ i, i < w.heap.size → may i → may' i) : Fr may' w w' :=
  ⟨h.os, h.tape, h.output, h.size, fun i hi hn => h.block i hi (fun h' => hn (hm i hi h'))⟩
theorem Fr.of_below {B : Nat} (h : Below B w w') : Fr (B ≤ ·) w w' := ⟨h.os, h.tape, h.output, h.size, fun i _ hm => h.block i (by omega)⟩
theorem Fr.of_grown {row : Option Nat} (h : w.grownBy w' row) : Fr (fun i => some i = row) w w' := ⟨h.os, h.tape, h.output, h.size, fun i hi hm => h.block i hi hm⟩
theorem Fr.drew (h : Fr may w w') : Fr may w w'.drew := ⟨h.os, h.tape, h.output, h.size, h.block⟩
theorem Fr.drewN (h : Fr may w w') (n : Nat) : Fr may w (w'.drewN n) := ⟨h.os, h.tape, h.output, h.size, h.block⟩
theorem Fr.alloc (h : Fr may w w') (o : Obj) : Fr may w (w'.alloc o) :=
  ⟨h.os, h.tape, h.output, Nat.le_trans h.size (by simp), fun i hi hm => (Below.heap_alloc w' o i (Nat.lt_of_lt_of_le hi h.size)).trans (h.block i hi hm)⟩
theorem Fr.setCell (h : Fr may w w') {p : Addr} (hp : p.block < w.heap.size → may p.block) (u : Value) : Fr may w (w'.setCell p u) :=
  ⟨h.os, h.tape, h.output, by simpa [World.setCell] using h.size, fun i hi hm => (Below.heap_setCell w' p u i (by rintro rfl; exact hm (hp hi))).trans (h.block i hi hm)⟩
theorem Fr.below {B : Nat} (h : Fr may w w') (hB : B ≤ w.heap.size) (hm : ∀ i, i < B → ¬ may i) : Below B w w' :=
  ⟨h.os, h.tape, h.output, h.size, fun i hi => h.block i (by omega) (hm i hi)⟩
theorem Fr.cell (h : Fr may w w') {p : Addr} (hp : p.block < w.heap.size) (hm : ¬ may p.block) : w'.cell? p = w.cell? p := World.cell?_of_block (h.block _ hp hm)
theorem below_drewN {B : Nat} {a w : World} (h : Below B a w) (n : Nat) : Below B a (w.drewN n) := ⟨h.os, h.tape, h.output, h.size, h.block⟩
end

/-- the slice (A, n) reads as the cells xs, k cells an element, in a block from L on, below B -/
def Rd (w : World) (L B k : Nat) (A : Option Addr) (n : Nat) (xs : List Value) : Prop :=
  xs.length = n * k ∧ (0 < n → ∃ b o, A = some ⟨b, o, none⟩ ∧ L ≤ b ∧ b < B ∧ ∀ j u, xs[j]? = some u → w.cell? ⟨b, o + j, none⟩ = some u)

section
variable {w w' : World} {L L' B B' k n : Nat} {A : Option Addr} {xs : List Value}
theorem Rd.nil : Rd w L B k A 0 [] := ⟨by simp, fun h => absurd h (by omega)⟩
theorem Rd.keep (h : Rd w L B k A n xs) (hk : ∀ p : Addr, L ≤ p.block → p.block < B → w'.cell? p = w.cell? p) : Rd w' L B k A n xs :=
  ⟨h.1, fun hn => by
    obtain ⟨b, o, e, hl, hb, hc⟩ := h.2 hn
    exact ⟨b, o, e, hl, hb, fun j u hu => (hk ⟨b, o + j, none⟩ hl hb).trans (hc j u hu)⟩⟩
theorem Rd.more (h : Rd w L B k A n xs) (hL : L' ≤ L) (hB : B ≤ B') : Rd w L' B' k A n xs :=
  ⟨h.1, fun hn => by
    obtain ⟨b, o, e, hl, hb, hc⟩ := h.2 hn
    exact ⟨b, o, e, by omega, by omega, hc⟩⟩
theorem Rd.below (h : Rd w L B k A n xs) (hb : Below B' w w') (hB : B ≤ B') : Rd w' L B k A n xs := h.keep fun _ _ hp => hb.cell (by omega)
theorem Rd.drewN (h : Rd w L B k A n xs) (m : Nat) : Rd (w.drewN m) L B k A n xs := h
theorem Rd.alloc (h : Rd w L B k A n xs) (hB : B ≤ w.heap.size) (o : Obj) : Rd (w.alloc o) L B k A n xs := h.keep fun p _ hp => World.cell?_alloc_lt w o p (by omega)
theorem Rd.fr {may : Nat → Prop} (h : Rd w L B k A n xs) (hf : Fr may w w') (hB : B ≤ w.heap.size) (hm : ∀ i, L ≤ i → i < B → ¬ may i) : Rd w' L B k A n xs :=
  h.keep fun p hl hp => hf.cell (by omega) (hm _ hl hp)
/-- the element at a place, one cell an element -/
theorem Rd.at1 {i : Nat} (h : Rd w L B 1 A n xs) (hi : i < n) : ∃ b o u, A = some ⟨b, o, none⟩ ∧ b < B ∧ xs[i]? = some u ∧ w.cell? ⟨b, o + i, none⟩ = some u := by
  obtain ⟨b, o, e, hl, hb, hc⟩ := h.2 (by omega)
  have hl : i < xs.length := by have := h.1; omega
  exact ⟨b, o, xs[i], e, hb, List.getElem?_eq_getElem hl, hc i _ (List.getElem?_eq_getElem hl)⟩
theorem Rd.of_own {base : Nat} {e : TypeId} {c : Nat} (h : w.ownsRow base e k (.slice A n c) n xs) : Rd w base w.heap.size k A n xs := by
  refine ⟨h.1, fun hn => ?_⟩
  rcases h.2 with ⟨hv, rfl⟩ | ⟨g, cap, cur, hv, hb, hh, hnc, _, hsz, htk⟩
  · omega
  · have hA : A = some ⟨g, 0, none⟩ := by injection hv
    have hlt : g < w.heap.size := by
      rcases Nat.lt_or_ge g w.heap.size with h' | h'
      · exact h'
      · rw [Array.getElem?_eq_none h'] at hh; cases hh
    refine ⟨g, 0, hA, hb, hlt, fun j u hu => ?_⟩
    rw [← htk] at hu
    rw [List.getElem?_take] at hu
    split at hu
    · simp [World.cell?, hh]; simpa using hu
    · cases hu
end

theorem ownsRow_fr {may : Nat → Prop} {w w' : World} {base : Nat} {e : TypeId} {k n : Nat} {v : Value} {xs : List Value} (h : w.ownsRow base e k v n xs) (hf : Fr may w w') (hm : ∀ i, some i = v.ownBlock → ¬ may i) : w'.ownsRow base e k v n xs := by
  refine ⟨h.1, ?_⟩
  rcases h.2 with h0 | ⟨g, cap, cur, hv, hb, hh, hr⟩
  · exact .inl h0
  · have hlt : g < w.heap.size := by
      rcases Nat.lt_or_ge g w.heap.size with h' | h'
      · exact h'
      · rw [Array.getElem?_eq_none h'] at hh; cases hh
    exact .inr ⟨g, cap, cur, hv, hb, (hf.block g hlt (hm g (by rw [hv]; rfl))).trans hh, hr⟩
theorem ownsRow_block {w : World} {base : Nat} {e : TypeId} {k n : Nat} {v : Value} {xs : List Value} (h : w.ownsRow base e k v n xs) {i : Nat} (hi : some i = v.ownBlock) : base ≤ i ∧ i < w.heap.size := by
  rcases h.2 with ⟨rfl, _⟩ | ⟨g, cap, cur, rfl, hb, hh, hr⟩
  · cases hi
  · cases hi
    refine ⟨hb, ?_⟩
    rcases Nat.lt_or_ge g w.heap.size with h' | h'
    · exact h'
    · rw [Array.getElem?_eq_none h'] at hh; cases hh
theorem ownsRow_shape {w : World} {base : Nat} {e : TypeId} {k n : Nat} {v : Value} {xs : List Value} (h : w.ownsRow base e k v n xs) : ∃ A cap, v = .slice A n cap ∧ n ≤ cap ∧ cap ≤ maxLen ∧ (A = none → n = 0 ∧ cap = 0) := by
  rcases h.2 with ⟨rfl, rfl⟩ | ⟨g, cap, cur, hv, hb, hh, h1, h2, _⟩
  · exact ⟨none, 0, rfl, Nat.le_refl _, Nat.zero_le _, fun _ => ⟨rfl, rfl⟩⟩
  · exact ⟨_, cap, hv, h1, h2, fun h => by cases h⟩

theorem alloc_at (w : World) (o : Obj) (i : Nat) (h : i = w.heap.size) : (w.alloc o).heap[i]? = some o := by
  subst h; exact heap_alloc_new w o

theorem cellsAt {w : World} {g : Nat} {cur : Array Value} {t : TypeId} (h : w.heap[g]? = some (.cells cur t (0, 0))) (j : Nat) : w.cell? ⟨g, j, none⟩ = cur[j]? := by
  simp [World.cell?, h]
theorem frozenAt {w : World} {g : Nat} {cur : Array Value} {t : TypeId} (h : w.heap[g]? = some (.cells cur t (0, 0))) (j : Nat) : w.frozen? ⟨g, j, none⟩ = false := by
  simp [World.frozen?, h]
theorem heap_lt {w : World} {g : Nat} {o : Obj} (h : w.heap[g]? = some o) : g < w.heap.size := by
  rcases Nat.lt_or_ge g w.heap.size with h' | h'
  · exact h'
  · rw [Array.getElem?_eq_none h'] at h; cases h
end Go.Proofs.YthfloagpmmohkaaGreatDoor
