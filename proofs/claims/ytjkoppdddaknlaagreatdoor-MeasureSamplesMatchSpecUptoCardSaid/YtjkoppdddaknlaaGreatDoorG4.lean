import Derived.Test.YtjkoppdddaknlaaGreatDoorStbRot
import Derived.Test.YtjkoppdddaknlaaGreatDoorSmpPln
import Derived.Below
import Derived.Laws.OwnMore
import Derived.Laws.IdiomCopy
import Derived.Deep.Draws
import Derived.Deep.Upon
import Derived.Laws.Rows
import Derived.Lib.Hide
/- A stable sort of numbers by what they stand for: among equals the lesser number stays ahead. No program in sight. -/
namespace Go.Proofs.YtjkoppdddaknlaaGreatDoor

/-- equals stand in the numbers' order -/
def StbW (d : Nat → Int) (l : List Nat) : Prop := ∀ (p q x y : Nat), p < q → l[p]? = some x → l[q]? = some y → d x = d y → x < y
theorem StbW.range (d : Nat → Int) (n : Nat) : StbW d (List.range n) := by
  intro p q x y h1 h2 h3 _
  have e2 := (List.getElem?_eq_some_iff.1 h2).2
  have e3 := (List.getElem?_eq_some_iff.1 h3).2
  rw [List.getElem_range] at e2 e3
  omega
/-- the test (of the right one and the left one) does not tell 'less' -/
theorem StbW.not {d : Nat → Int} {l : List Nat} (h : StbW d l) {p q x y : Nat} (hpq : p < q) (hx : l[p]? = some x) (hy : l[q]? = some y) (hn : ¬ d x < d y) : ltW d x y := by
  rcases Int.lt_or_eq_of_le (show d y ≤ d x by omega) with h1 | h1
  · exact .inl h1
  · exact .inr ⟨h1.symm, h p q x y hpq hx hy h1.symm⟩
theorem StbW.sorted {d : Nat → Int} {l l' : List Nat} {a b : Nat} (h : StbW d l) (hp : PermOn l l' a b) (hb : b ≤ l.length) (hs : SrtOn (ltW d) l' a b) : StbW d l' := by
  intro p q x y hpq hx hy he
  have hb' : b ≤ l'.length := by rw [hp.len]; exact hb
  have back : ∀ {k z}, a ≤ k → k < b → l'[k]? = some z → ∃ j, a ≤ j ∧ j < b ∧ l[j]? = some z := fun {k z} h1 h2 h3 =>
    (sgm_mem hb).1 (hp.perm.mem_iff.2 ((sgm_mem hb').2 ⟨k, h1, h2, h3⟩))
  have lt_of : ltW d x y → x < y := fun h => by unfold ltW at h; omega
  rcases Nat.lt_or_ge p a with p1 | p1
  · rw [hp.out p (.inl p1)] at hx
    rcases Nat.lt_or_ge q a with q1 | q1
    · rw [hp.out q (.inl q1)] at hy; exact h p q x y hpq hx hy he
    · rcases Nat.lt_or_ge q b with q2 | q2
      · obtain ⟨j, j1, j2, j3⟩ := back q1 q2 hy
        exact h p j x y (by omega) hx j3 he
      · rw [hp.out q (.inr q2)] at hy; exact h p q x y hpq hx hy he
  · rcases Nat.lt_or_ge p b with p2 | p2
    · rcases Nat.lt_or_ge q b with q2 | q2
      · exact lt_of (hs p q x y p1 hpq q2 hx hy)
      · rw [hp.out q (.inr q2)] at hy
        obtain ⟨j, j1, j2, j3⟩ := back p1 p2 hx
        exact h j q x y (by omega) j3 hy he
    · rw [hp.out p (.inr p2)] at hx
      rw [hp.out q (.inr (by omega))] at hy
      exact h p q x y hpq hx hy he
theorem StbW.turn {d : Nat → Int} {l : List Nat} {s m e : Nat} (h : StbW d l) (h1 : s ≤ m) (h2 : m ≤ e) (h3 : e ≤ l.length)
    (hc : ∀ p q x y, s ≤ p → p < s + (e - m) → s + (e - m) ≤ q → q < e → (rot l s m e)[p]? = some x → (rot l s m e)[q]? = some y → ltW d x y) : StbW d (rot l s m e) := by
  intro p q x y hpq hx hy he
  have pos : ∀ {k z}, (rot l s m e)[k]? = some z → ∃ j, l[j]? = some z ∧ ((k < s ∧ j = k) ∨ (s ≤ k ∧ k < s + (e - m) ∧ j = k - s + m) ∨ (s + (e - m) ≤ k ∧ k < e ∧ j = k - (e - m)) ∨ (e ≤ k ∧ j = k)) := fun {k z} hk => by
    rcases Nat.lt_or_ge k s with k1 | k1
    · rw [rot_out h1 h2 h3 (.inl k1)] at hk; exact ⟨k, hk, .inl ⟨k1, rfl⟩⟩
    · rcases Nat.lt_or_ge k (s + (e - m)) with k2 | k2
      · rw [rot_lo h1 h2 h3 k1 k2] at hk; exact ⟨_, hk, .inr (.inl ⟨k1, k2, rfl⟩)⟩
      · rcases Nat.lt_or_ge k e with k3 | k3
        · rw [rot_hi h1 h2 h3 k2 k3] at hk; exact ⟨_, hk, .inr (.inr (.inl ⟨k2, k3, rfl⟩))⟩
        · rw [rot_out h1 h2 h3 (.inr k3)] at hk; exact ⟨k, hk, .inr (.inr (.inr ⟨k3, rfl⟩))⟩
  by_cases hcr : (s ≤ p ∧ p < s + (e - m)) ∧ (s + (e - m) ≤ q ∧ q < e)
  · have := hc p q x y hcr.1.1 hcr.1.2 hcr.2.1 hcr.2.2 hx hy
    unfold ltW at this
    omega
  · obtain ⟨jp, e1, c1⟩ := pos hx
    obtain ⟨jq, e2, c2⟩ := pos hy
    exact h jp jq x y (by omega) e1 e2 he
end Go.Proofs.YtjkoppdddaknlaaGreatDoor

/- Words for memory: frames, slices that read as lists, boxes. No program in sight. -/
namespace Go.Proofs.YtjkoppdddaknlaaGreatDoor
open Go Go.RowKit

/-- w' is w with new blocks, and with other contents in the blocks that 'may' names. -/
structure Fr (may : Nat → Prop) (w w' : World) : Prop where
  os : w'.os = w.os
  tape : w'.tape = w.tape
  output : w'.output = w.output
  size : w.heap.size ≤ w'.heap.size
  block : ∀ i, i < w.heap.size → ¬ may i → w'.heap[i]? = w.heap[i]?

section
variable {may may' : Nat → Prop} {w w' w1 w2 : World}
theorem Fr.refl (may : Nat → Prop) (w : World) : Fr may w w := ⟨rfl, rfl, rfl, Nat.le_refl _, fun _ _ _ => rfl⟩
theorem Fr.trans (h1 : Fr may w w1) (h2 : Fr may' w1 w2) (h : ∀ i, i < w.heap.size → may' i → may i) : Fr may w w2 :=
  ⟨h2.os.trans h1.os, h2.tape.trans h1.tape, h2.output.trans h1.output, Nat.le_trans h1.size h2.size, fun i hi hm =>
    (h2.block i (Nat.lt_of_lt_of_le hi h1.size) (fun hm' => hm (h i hi hm'))).trans (h1.block i hi hm)⟩
theorem Fr.mono (h : Fr may w w') (hm : ∀ i, i < w.heap.size → may i → may' i) : Fr may' w w' :=
  ⟨h.os, h.tape, h.output, h.size, fun i hi hn => h.block i hi (fun h' => hn (hm i hi h'))⟩
theorem Fr.of_below {B : Nat} (h : Below B w w') : Fr (B ≤ ·) w w' := ⟨h.os, h.tape, h.output, h.size, fun i _ hm => h.block i (by omega)⟩
theorem Fr.of_grown {row : Option Nat} (h : w.grownBy w' row) : Fr (fun i => some i = row) w w' := ⟨h.os, h.tape, h.output, h.size, fun i hi hm => h.block i hi hm⟩
theorem Fr.drew (h : Fr may w w') : Fr may w w'.drew := ⟨h.os, h.tape, h.output, h.size, h.block⟩
theorem Fr.drewN (h : Fr may w w') (n : Nat) : Fr may w (w'.drewN n) := ⟨h.os, h.tape, h.output, h.size, h.block⟩
theorem Fr.alloc (h : Fr may w w') (o : Obj) : Fr may w (w'.alloc o) :=
  ⟨h.os, h.tape, h.output, Nat.le_trans h.size (by simp), fun i hi hm => (Below.heap_alloc w' o i (Nat.lt_of_lt_of_le hi h.size)).trans (h.block i hi hm)⟩
theorem Fr.setCell (h : Fr may w w') {p : Addr} (hp : p.block < w.heap.size → may p.block) (u : Value) : Fr may w (w'.setCell p u) :=
  ⟨h.os, h.tape, h.output, by simpa [World.setCell] using h.size, fun i hi hm => (Below.heap_setCell w' p u i (by rintro rfl; exact hm (hp hi))).trans (h.block i hi hm)⟩
theorem Fr.below {B : Nat} (h : Fr may w w') (hB : B ≤ w.heap.size) (hm : ∀ i, i < B → ¬ may i) : Below B w w' :=
  ⟨h.os, h.tape, h.output, h.size, fun i hi => h.block i (by omega) (hm i hi)⟩
theorem Fr.grown {row : Option Nat} (h : Fr may w w') (hm : ∀ i, i < w.heap.size → may i → some i = row) : w.grownBy w' row :=
  ⟨h.os, h.tape, h.output, h.size, fun i hi hne => h.block i hi (fun h' => hne (hm i hi h'))⟩
theorem Fr.cell (h : Fr may w w') {p : Addr} (hp : p.block < w.heap.size) (hm : ¬ may p.block) : w'.cell? p = w.cell? p := World.cell?_of_block (h.block _ hp hm)
theorem below_drewN {B : Nat} {a w : World} (h : Below B a w) (n : Nat) : Below B a (w.drewN n) := ⟨h.os, h.tape, h.output, h.size, h.block⟩
end

/-- the slice (A, n) reads as the cells xs, k cells an element, in a block from L on, below B -/
def Rd (w : World) (L B k : Nat) (A : Option Addr) (n : Nat) (xs : List Value) : Prop :=
  xs.length = n * k ∧ (0 < n → ∃ b o, A = some ⟨b, o, none⟩ ∧ L ≤ b ∧ b < B ∧ ∀ j u, xs[j]? = some u → w.cell? ⟨b, o + j, none⟩ = some u)

section
variable {w w' : World} {L L' B B' k n : Nat} {A : Option Addr} {xs : List Value}
theorem Rd.nil : Rd w L B k A 0 [] := ⟨by simp, fun h => absurd h (by omega)⟩
theorem Rd.keep (h : Rd w L B k A n xs) (hk : ∀ p : Addr, L ≤ p.block → p.block < B → w'.cell? p = w.cell? p) : Rd w' L B k A n xs :=
  ⟨h.1, fun hn => by
    obtain ⟨b, o, e, hl, hb, hc⟩ := h.2 hn
    exact ⟨b, o, e, hl, hb, fun j u hu => (hk ⟨b, o + j, none⟩ hl hb).trans (hc j u hu)⟩⟩
theorem Rd.more (h : Rd w L B k A n xs) (hL : L' ≤ L) (hB : B ≤ B') : Rd w L' B' k A n xs :=
  ⟨h.1, fun hn => by
    obtain ⟨b, o, e, hl, hb, hc⟩ := h.2 hn
    exact ⟨b, o, e, by omega, by omega, hc⟩⟩
theorem Rd.below (h : Rd w L B k A n xs) (hb : Below B' w w') (hB : B ≤ B') : Rd w' L B k A n xs := h.keep fun _ _ hp => hb.cell (by omega)
theorem Rd.drewN (h : Rd w L B k A n xs) (m : Nat) : Rd (w.drewN m) L B k A n xs := h
theorem Rd.alloc (h : Rd w L B k A n xs) (hB : B ≤ w.heap.size) (o : Obj) : Rd (w.alloc o) L B k A n xs := h.keep fun p _ hp => World.cell?_alloc_lt w o p (by omega)
theorem Rd.fr {may : Nat → Prop} (h : Rd w L B k A n xs) (hf : Fr may w w') (hB : B ≤ w.heap.size) (hm : ∀ i, L ≤ i → i < B → ¬ may i) : Rd w' L B k A n xs :=
  h.keep fun p hl hp => hf.cell (by omega) (hm _ hl hp)
/-- the element at a place, one cell an element -/
theorem Rd.at1 {i : Nat} (h : Rd w L B 1 A n xs) (hi : i < n) : ∃ b o u, A = some ⟨b, o, none⟩ ∧ b < B ∧ xs[i]? = some u ∧ w.cell? ⟨b, o + i, none⟩ = some u := by
  obtain ⟨b, o, e, hl, hb, hc⟩ := h.2 (by omega)
  have hl : i < xs.length := by have := h.1; omega
  exact ⟨b, o, xs[i], e, hb, List.getElem?_eq_getElem hl, hc i _ (List.getElem?_eq_getElem hl)⟩
theorem Rd.of_own {base : Nat} {e : TypeId} {c : Nat} (h : w.ownsRow base e k (.slice A n c) n xs) : Rd w base w.heap.size k A n xs := by
  refine ⟨h.1, fun hn => ?_⟩
  rcases h.2 with ⟨hv, rfl⟩ | ⟨g, cap, cur, hv, hb, hh, hnc, _, hsz, htk⟩
  · omega
  · have hA : A = some ⟨g, 0, none⟩ := by injection hv
    have hlt : g < w.heap.size := by
      rcases Nat.lt_or_ge g w.heap.size with h' | h'
      · exact h'
      · rw [Array.getElem?_eq_none h'] at hh; cases hh
    refine ⟨g, 0, hA, hb, hlt, fun j u hu => ?_⟩
    rw [← htk] at hu
    rw [List.getElem?_take] at hu
    split at hu
    · simp [World.cell?, hh]; simpa using hu
    · cases hu
end

theorem ownsRow_fr {may : Nat → Prop} {w w' : World} {base : Nat} {e : TypeId} {k n : Nat} {v : Value} {xs : List Value} (h : w.ownsRow base e k v n xs) (hf : Fr may w w') (hm : ∀ i, some i = v.ownBlock → ¬ may i) : w'.ownsRow base e k v n xs := by
  refine ⟨h.1, ?_⟩
  rcases h.2 with h0 | ⟨g, cap, cur, hv, hb, hh, hr⟩
  · exact .inl h0
  · have hlt : g < w.heap.size := by
      rcases Nat.lt_or_ge g w.heap.size with h' | h'
      · exact h'
      · rw [Array.getElem?_eq_none h'] at hh; cases hh
    exact .inr ⟨g, cap, cur, hv, hb, (hf.block g hlt (hm g (by rw [hv]; rfl))).trans hh, hr⟩
theorem ownsRow_block {w : World} {base : Nat} {e : TypeId} {k n : Nat} {v : Value} {xs : List Value} (h : w.ownsRow base e k v n xs) {i : Nat} (hi : some i = v.ownBlock) : base ≤ i ∧ i < w.heap.size := by
  rcases h.2 with ⟨rfl, _⟩ | ⟨g, cap, cur, rfl, hb, hh, hr⟩
  · cases hi
  · cases hi
    refine ⟨hb, ?_⟩
    rcases Nat.lt_or_ge g w.heap.size with h' | h'
    · exact h'
    · rw [Array.getElem?_eq_none h'] at hh; cases hh
/-- a row with an element has an address -/
theorem ownsRow_some {w : World} {base : Nat} {e : TypeId} {k n : Nat} {v : Value} {xs : List Value} (h : w.ownsRow base e k v n xs) (hn : 0 < n) : ∃ g cap, v = .slice (some ⟨g, 0, none⟩) n cap ∧ base ≤ g ∧ g < w.heap.size ∧ n ≤ cap ∧ cap ≤ maxLen := by
  rcases h.2 with ⟨rfl, h0⟩ | ⟨g, cap, cur, hv, hb, hh, h1, h2, _⟩
  · omega
  · exact ⟨g, cap, hv, hb, (ownsRow_block h (i := g) (by rw [hv]; rfl)).2, h1, h2⟩
theorem ownsRow_shape {w : World} {base : Nat} {e : TypeId} {k n : Nat} {v : Value} {xs : List Value} (h : w.ownsRow base e k v n xs) : ∃ A cap, v = .slice A n cap ∧ n ≤ cap ∧ cap ≤ maxLen ∧ (A = none → n = 0 ∧ cap = 0) := by
  rcases h.2 with ⟨rfl, rfl⟩ | ⟨g, cap, cur, hv, hb, hh, h1, h2, _⟩
  · exact ⟨none, 0, rfl, Nat.le_refl _, Nat.zero_le _, fun _ => ⟨rfl, rfl⟩⟩
  · exact ⟨_, cap, hv, h1, h2, fun h => by cases h⟩

theorem alloc_at (w : World) (o : Obj) (i : Nat) (h : i = w.heap.size) : (w.alloc o).heap[i]? = some o := by
  subst h; exact heap_alloc_new w o

/-- integers as cells -/
def ints (zs : List Int) : List Value := zs.map (Value.int .i64)
theorem ints_length (zs : List Int) : (ints zs).length = zs.length := by simp [ints]
theorem ints_get {zs : List Int} {i : Nat} {u : Value} (h : (ints zs)[i]? = some u) : ∃ z, zs[i]? = some z ∧ u = .int .i64 z := by
  unfold ints at h; rw [List.getElem?_map] at h
  cases hz : zs[i]? with
  | none => rw [hz] at h; cases h
  | some z => rw [hz] at h; exact ⟨z, rfl, by simpa using h.symm⟩

/-- the block that 'setCells' writes, as a list -/
theorem setCells_block (g : Nat) (t : TypeId) (fz : Nat × Nat) : ∀ (vs : List Value) (o : Nat) (w : World) (cs : Array Value), w.heap[g]? = some (.cells cs t fz) → o + vs.length ≤ cs.size →
    ∃ cs' : Array Value, (w.setCells g o vs).heap[g]? = some (.cells cs' t fz) ∧ cs'.toList = cs.toList.take o ++ vs ++ cs.toList.drop (o + vs.length)
  | [], o, w, cs, h, _ => ⟨cs, h, by simp⟩
  | v :: vs, o, w, cs, h, hl => by
    simp only [List.length_cons] at hl
    have h1 : (w.setCell ⟨g, o, none⟩ v).heap[g]? = some (.cells (cs.setIfInBounds o v) t fz) := by
      simp [World.setCell, Array.getElem?_modify, h]
    obtain ⟨cs', h2, h3⟩ := setCells_block g t fz vs (o + 1) (w.setCell ⟨g, o, none⟩ v) (cs.setIfInBounds o v) h1 (by simp; omega)
    refine ⟨cs', h2, ?_⟩
    rw [h3]
    have ho : o < cs.toList.length := by simp; omega
    simp only [Array.toList_setIfInBounds, List.length_cons]
    rw [List.take_set, List.drop_set_of_lt (by omega), List.take_succ_eq_append_getElem (by simpa using ho)]
    rw [List.set_append_right _ _ (by simp; omega)]
    simp [Nat.min_eq_left (Nat.le_of_lt (by simpa using ho)), Nat.add_assoc, Nat.add_comm 1]
theorem cellsAt {w : World} {g : Nat} {cur : Array Value} {t : TypeId} (h : w.heap[g]? = some (.cells cur t (0, 0))) (j : Nat) : w.cell? ⟨g, j, none⟩ = cur[j]? := by
  simp [World.cell?, h]
theorem frozenAt {w : World} {g : Nat} {cur : Array Value} {t : TypeId} (h : w.heap[g]? = some (.cells cur t (0, 0))) (j : Nat) : w.frozen? ⟨g, j, none⟩ = false := by
  simp [World.frozen?, h]
theorem heap_lt {w : World} {g : Nat} {o : Obj} (h : w.heap[g]? = some o) : g < w.heap.size := by
  rcases Nat.lt_or_ge g w.heap.size with h' | h'
  · exact h'
  · rw [Array.getElem?_eq_none h'] at h; cases h
theorem fr_setCells {may : Nat → Prop} {w w' : World} (h : Fr may w w') (g : Nat) (hg : g < w.heap.size → may g) : ∀ (vs : List Value) (o : Nat), Fr may w (w'.setCells g o vs) := by
  intro vs
  induction vs generalizing w' with
  | nil => intro o; exact h
  | cons v vs ih => intro o; exact ih (h.setCell (p := ⟨g, o, none⟩) hg v) (o + 1)

end Go.Proofs.YtjkoppdddaknlaaGreatDoor

/- The state of a call's own memory: what was there before it is as it was, and the blocks of its own hold what is listed. -/
namespace Go.Proofs.YtjkoppdddaknlaaGreatDoor
open Go Go.RowKit Go.Proofs

/-- since w nothing that was there has turned, and these blocks of the call's own hold these -/
structure St (w w' : World) (bs : List (Nat × Obj)) : Prop where
  below : Below w.heap.size w w'
  box : ∀ (i : Nat) b o, bs[i]? = some (b, o) → w.heap.size ≤ b ∧ w'.heap[b]? = some o

theorem below_next {W X Y : World} (h1 : Below W.heap.size W X) (h2 : Below X.heap.size X Y) : Below W.heap.size W Y := h1.trans (h2.mono h1.size)
section
variable {w w' w'' : World} {bs : List (Nat × Obj)}
theorem St.start (w : World) : St w w [] := ⟨Below.refl _ _, fun i b o h => by simp at h⟩
theorem St.alloc (h : St w w' bs) (o : Obj) (b : Nat) (hb : b = w'.heap.size) : St w (w'.alloc o) (bs ++ [(b, o)]) := by
  refine ⟨h.below.alloc h.below.size _, fun i b' o' hi => ?_⟩
  rw [List.getElem?_append] at hi
  split at hi
  · have := h.box i b' o' hi
    exact ⟨this.1, (Below.heap_alloc _ _ _ (heap_lt this.2)).trans this.2⟩
  · rw [List.getElem?_singleton] at hi
    split at hi
    · have hi' := Option.some.inj hi
      obtain ⟨rfl, rfl⟩ := Prod.mk.inj hi'
      exact ⟨by have := h.below.size; omega, alloc_at _ _ _ hb⟩
    · cases hi
/-- a block that is not listed -/
theorem St.more (h : St w w' bs) (o : Obj) : St w (w'.alloc o) bs :=
  ⟨h.below.alloc h.below.size _, fun i b o hi => ⟨(h.box i b o hi).1, (Below.heap_alloc _ _ _ (heap_lt (h.box i b o hi).2)).trans (h.box i b o hi).2⟩⟩
theorem St.call (h : St w w' bs) (hb : Below w'.heap.size w' w'') : St w w'' bs :=
  ⟨h.below.trans (hb.mono h.below.size), fun i b o hi => ⟨(h.box i b o hi).1, (hb.block b (heap_lt (h.box i b o hi).2)).trans (h.box i b o hi).2⟩⟩
theorem St.fr {may : Nat → Prop} (h : St w w' bs) (hf : Fr may w' w'') (hm : ∀ (i : Nat) b o, bs[i]? = some (b, o) → ¬ may b) (h0 : ∀ i, may i → w.heap.size ≤ i) : St w w'' bs :=
  ⟨h.below.trans (hf.below h.below.size (fun i hi hm' => by have := h0 i hm'; omega)), fun i b o hi => ⟨(h.box i b o hi).1, (hf.block b (heap_lt (h.box i b o hi).2) (hm i b o hi)).trans (h.box i b o hi).2⟩⟩
theorem St.drewN (h : St w w' bs) (n : Nat) : St w (w'.drewN n) bs := ⟨below_drewN h.below n, h.box⟩
theorem St.drew (h : St w w' bs) : St w w'.drew bs := ⟨h.below.drew, h.box⟩
theorem St.set (h : St w w' bs) (i j : Nat) (u : Value) {b : Nat} {cs : Array Value} {t : TypeId} {fz : Nat × Nat} (hi : bs[i]? = some (b, .cells cs t fz)) (hd : ∀ (k : Nat) b' o', bs[k]? = some (b', o') → k ≠ i → b' ≠ b) :
    St w (w'.setCell ⟨b, j, none⟩ u) (bs.set i (b, .cells (cs.setIfInBounds j u) t fz)) := by
  refine ⟨h.below.setCell (h.box i _ _ hi).1 _, fun k b' o' hk => ?_⟩
  rw [List.getElem?_set] at hk
  split at hk
  · rename_i e
    subst e
    split at hk
    · have hi' := Option.some.inj hk
      obtain ⟨rfl, rfl⟩ := Prod.mk.inj hi'
      refine ⟨(h.box _ _ _ hi).1, ?_⟩
      have := (h.box _ _ _ hi).2
      simp [World.setCell, Array.getElem?_modify, this]
    · cases hk
  · rename_i e
    have hx := h.box k b' o' hk
    exact ⟨hx.1, (Below.heap_setCell _ _ _ _ (hd k b' o' hk (fun e' => e e'.symm))).trans hx.2⟩
theorem St.cell (h : St w w' bs) (i j : Nat) {b : Nat} {cs : Array Value} {t : TypeId} {u : Value} (hi : bs[i]? = some (b, .cells cs t (0, 0))) (hj : cs[j]? = some u) : w'.cell? ⟨b, j, none⟩ = some u := by
  rw [cellsAt (h.box i _ _ hi).2, hj]
theorem St.frozen (h : St w w' bs) (i j : Nat) {b : Nat} {cs : Array Value} {t : TypeId} (hi : bs[i]? = some (b, .cells cs t (0, 0))) : w'.frozen? ⟨b, j, none⟩ = false := frozenAt (h.box i _ _ hi).2 j
theorem St.lt (h : St w w' bs) (i : Nat) {b : Nat} {o : Obj} (hi : bs[i]? = some (b, o)) : b < w'.heap.size := heap_lt (h.box i _ _ hi).2
theorem St.at (h : St w w' bs) (i : Nat) {b : Nat} {o : Obj} (hi : bs[i]? = some (b, o)) : w'.heap[b]? = some o := (h.box i _ _ hi).2
theorem St.grown {M : Nat} (h : St w w' bs) (hg : w'.grownBy w'' (some M)) (h0 : w.heap.size ≤ M) (hm : ∀ x ∈ bs, x.1 ≠ M) : St w w'' bs :=
  h.fr (Fr.of_grown hg) (fun i b o hi hb => by have hb : b = M := by simpa using hb
                                               exact hm _ (List.mem_of_getElem? hi) hb) (fun i hi => by have hi : i = M := by simpa using hi
                                                                                                        omega)
theorem St.old (h : St w w' bs) (hb : Below w'.heap.size w' w'') : Below w.heap.size w w'' := (h.call hb).below
theorem Rd.old {k n : Nat} {A : Option Addr} {xs : List Value} (h : Rd w 0 w.heap.size k A n xs) (hb : Below w.heap.size w w') : Rd w' 0 w'.heap.size k A n xs := (h.below hb (Nat.le_refl _)).more (Nat.le_refl _) hb.size
/-- a store into the block that is listed last -/
theorem St.setLast (bs : List (Nat × Obj)) (j : Nat) (u : Value) {b : Nat} {cs : Array Value} {t : TypeId} {fz : Nat × Nat} (h : St w w' (bs ++ [(b, .cells cs t fz)])) (hd : ∀ x ∈ bs, x.1 ≠ b) : St w (w'.setCell ⟨b, j, none⟩ u) (bs ++ [(b, .cells (cs.setIfInBounds j u) t fz)]) := by
  have := h.set bs.length j u (b := b) (cs := cs) (t := t) (fz := fz) (by simp) (fun k b' o' hk hne => by
    rw [List.getElem?_append] at hk
    split at hk
    · exact hd _ (List.mem_of_getElem? hk)
    · rw [List.getElem?_singleton] at hk
      split at hk
      · omega
      · cases hk)
  simpa using this
/-- behind an append to a row that lies behind the listed blocks -/
theorem St.app {base : Nat} {e : TypeId} {k n : Nat} {v : Value} {xs : List Value} (h : St w w' bs) (hown : w'.ownsRow base e k v n xs) (hg : w'.grownBy w'' v.ownBlock) (hb : ∀ x ∈ bs, x.1 < base) (h0 : w.heap.size ≤ base) : St w w'' bs :=
  h.fr (Fr.of_grown hg) (fun i b o hi hm => by have := hb _ (List.mem_of_getElem? hi); have := (ownsRow_block hown hm).1; simp only at *; omega) (fun i hi => by have := (ownsRow_block hown hi).1; omega)
/-- the list, shortened to what is still needed -/
theorem St.pick (h : St w w' bs) (bs' : List (Nat × Obj)) (hs : ∀ x ∈ bs', x ∈ bs) : St w w' bs' :=
  ⟨h.below, fun i b o hi => by
    obtain ⟨j, hj⟩ := List.getElem?_of_mem (hs _ (List.mem_of_getElem? hi))
    exact h.box j b o hj⟩
theorem St.take (h : St w w' bs) (n : Nat) : St w w' (bs.take n) :=
  h.pick _ (fun _ hx => List.mem_of_mem_take hx)
end
end Go.Proofs.YtjkoppdddaknlaaGreatDoor
