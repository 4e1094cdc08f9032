import Derived.Test.YtnpfdelklolchaaGreatDoorG1
import Derived.Test.YtnpfdelklolchaaGreatDoorProg
import Derived.Lib.IndexBytes
import Derived.WalkSpells
import Derived.WalkLawsBesides
import Derived.Handy
import Derived.Lib.SlTrimSet
import Derived.Lib.Strings
/- The state of a call's own memory: what was there before it is as it was, and the blocks of its own hold what is listed. -/
namespace Go.Proofs.YtnpfdelklolchaaGreatDoor
open Go Go.RowKit Go.Proofs

/-- since w nothing that was there has turned, and these blocks of the call's own hold these -/
structure St (w w' : World) (bs : List (Nat × Obj)) : Prop where
  below : Below w.heap.size w w'
  box : ∀ (i : Nat) b o, bs[i]? = some (b, o) → w.heap.size ≤ b ∧ w'.heap[b]? = some o

theorem below_next {W X Y : World} (h1 : Below W.heap.size W X) (h2 : Below X.heap.size X Y) : Below W.heap.size W Y := h1.trans (h2.mono h1.size)
section
variable {w w' w'' : World} {bs : List (Nat × Obj)}
theorem St.start (w : World) : St w w [] := ⟨Below.refl _ _, fun i b o h => by simp at h⟩
theorem St.alloc (h : St w w' bs) (o : Obj) (b : Nat) (hb : b = w'.heap.size) : St w (w'.alloc o) (bs ++ [(b, o)]) := by
  refine ⟨h.below.alloc h.below.size _, fun i b' o' hi => ?_⟩
  rw [List.getElem?_append] at hi
  split at hi
  · have := h.box i b' o' hi
    exact ⟨this.1, (Below.heap_alloc _ _ _ (heap_lt this.2)).trans this.2⟩
  · rw [List.getElem?_singleton] at hi
    split at hi
    · have hi' := Option.some.inj hi
      obtain ⟨rfl, rfl⟩ := Prod.mk.inj hi'
      exact ⟨by have := h.below.size; omega, alloc_at _ _ _ hb⟩
    · cases hi
/-- a block that is not listed -/
theorem St.more (h : St w w' bs) (o : Obj) : St w (w'.alloc o) bs :=
  ⟨h.below.alloc h.below.size _, fun i b o hi => ⟨(h.box i b o hi).1, (Below.heap_alloc _ _ _ (heap_lt (h.box i b o hi).2)).trans (h.box i b o hi).2⟩⟩
theorem St.call (h : St w w' bs) (hb : Below w'.heap.size w' w'') : St w w'' bs :=
  ⟨h.below.trans (hb.mono h.below.size), fun i b o hi => ⟨(h.box i b o hi).1, (hb.block b (heap_lt (h.box i b o hi).2)).trans (h.box i b o hi).2⟩⟩
theorem St.fr {may : Nat → Prop} (h : St w w' bs) (hf : Fr may w' w'') (hm : ∀ (i : Nat) b o, bs[i]? = some (b, o) → ¬ may b) (h0 : ∀ i, may i → w.heap.size ≤ i) : St w w'' bs :=
  ⟨h.below.trans (hf.below h.below.size (fun i hi hm' => by have := h0 i hm'; omega)), fun i b o hi => ⟨(h.box i b o hi).1, (hf.block b (heap_lt (h.box i b o hi).2) (hm i b o hi)).trans (h.box i b o hi).2⟩⟩
theorem St.drewN (h : St w w' bs) (n : Nat) : St w (w'.drewN n) bs := ⟨below_drewN h.below n, h.box⟩
theorem St.drew (h : St w w' bs) : St w w'.drew bs := ⟨h.below.drew, h.box⟩
theorem St.set (h : St w w' bs) (i j : Nat) (u : Value) {b : Nat} {cs : Array Value} {t : TypeId} {fz : Nat × Nat} (hi : bs[i]? = some (b, .cells cs t fz)) (hd : ∀ (k : Nat) b' o', bs[k]? = some (b', o') → k ≠ i → b' ≠ b) :
    St w (w'.setCell ⟨b, j, none⟩ u) (bs.set i (b, .cells (cs.setIfInBounds j u) t fz)) := by
  refine ⟨h.below.setCell (h.box i _ _ hi).1 _, fun k b' o' hk => ?_⟩
  rw [List.getElem?_set] at hk
  split at hk
  · rename_i e
    subst e
    split at hk
    · have hi' := Option.some.inj hk
      obtain ⟨rfl, rfl⟩ := Prod.mk.inj hi'
      refine ⟨(h.box _ _ _ hi).1, ?_⟩
      have := (h.box _ _ _ hi).2
      simp [World.setCell, Array.getElem?_modify, this]
    · cases hk
  · rename_i e
    have hx := h.box k b' o' hk
    exact ⟨hx.1, (Below.heap_setCell _ _ _ _ (hd k b' o' hk (fun e' => e e'.symm))).trans hx.2⟩
theorem St.cell (h : St w w' bs) (i j : Nat) {b : Nat} {cs : Array Value} {t : TypeId} {u : Value} (hi : bs[i]? = some (b, .cells cs t (0, 0))) (hj : cs[j]? = some u) : w'.cell? ⟨b, j, none⟩ = some u := by
  rw [cellsAt (h.box i _ _ hi).2, hj]
theorem St.frozen (h : St w w' bs) (i j : Nat) {b : Nat} {cs : Array Value} {t : TypeId} (hi : bs[i]? = some (b, .cells cs t (0, 0))) : w'.frozen? ⟨b, j, none⟩ = false := frozenAt (h.box i _ _ hi).2 j
theorem St.lt (h : St w w' bs) (i : Nat) {b : Nat} {o : Obj} (hi : bs[i]? = some (b, o)) : b < w'.heap.size := heap_lt (h.box i _ _ hi).2
theorem St.at (h : St w w' bs) (i : Nat) {b : Nat} {o : Obj} (hi : bs[i]? = some (b, o)) : w'.heap[b]? = some o := (h.box i _ _ hi).2
theorem St.grown {M : Nat} (h : St w w' bs) (hg : w'.grownBy w'' (some M)) (h0 : w.heap.size ≤ M) (hm : ∀ x ∈ bs, x.1 ≠ M) : St w w'' bs :=
  h.fr (Fr.of_grown hg) (fun i b o hi hb => by have hb : b = M := by simpa using hb
                                               exact hm _ (List.mem_of_getElem? hi) hb) (fun i hi => by have hi : i = M := by simpa using hi
                                                                                                        omega)
theorem St.old (h : St w w' bs) (hb : Below w'.heap.size w' w'') : Below w.heap.size w w'' := (h.call hb).below
theorem Rd.old {k n : Nat} {A : Option Addr} {xs : List Value} (h : Rd w 0 w.heap.size k A n xs) (hb : Below w.heap.size w w') : Rd w' 0 w'.heap.size k A n xs := (h.below hb (Nat.le_refl _)).more (Nat.le_refl _) hb.size
/-- behind an append to a row that lies behind the listed blocks -/
theorem St.app {base : Nat} {e : TypeId} {k n : Nat} {v : Value} {xs : List Value} (h : St w w' bs) (hown : w'.ownsRow base e k v n xs) (hg : w'.grownBy w'' v.ownBlock) (hb : ∀ x ∈ bs, x.1 < base) (h0 : w.heap.size ≤ base) : St w w'' bs :=
  h.fr (Fr.of_grown hg) (fun i b o hi hm => by have := hb _ (List.mem_of_getElem? hi); have := (ownsRow_block hown hm).1; simp only at *; omega) (fun i hi => by have := (ownsRow_block hown hi).1; omega)
/-- the list, shortened to what is still needed -/
theorem St.pick (h : St w w' bs) (bs' : List (Nat × Obj)) (hs : ∀ x ∈ bs', x ∈ bs) : St w w' bs' :=
  ⟨h.below, fun i b o hi => by
    obtain ⟨j, hj⟩ := List.getElem?_of_mem (hs _ (List.mem_of_getElem? hi))
    exact h.box j b o hj⟩
theorem St.take (h : St w w' bs) (n : Nat) : St w w' (bs.take n) :=
  h.pick _ (fun _ hx => List.mem_of_mem_take hx)
end
end Go.Proofs.YtnpfdelklolchaaGreatDoor

/- Package dynamometerref10: unsigned, digits. -/
namespace Go.Proofs.YtnpfdelklolchaaGreatDoor
open Go Go.RowKit Go.Proofs

theorem ba_size {S : ByteArray} {L : List UInt8} (h : S.data.toList = L) : S.size = L.length := by subst h; exact Array.length_toList.symm
theorem ba_first {S : ByteArray} {c : UInt8} {r : List UInt8} (h : S.data.toList = c :: r) (hp : 0 < S.size) : S[0] = c := by
  have e2 : S.data.toList[0]? = some S[0] := List.getElem?_eq_getElem (l := S.data.toList) (i := 0) (by simpa using hp)
  rw [h] at e2
  exact (Option.some.inj e2).symm
end Go.Proofs.YtnpfdelklolchaaGreatDoor

/- Texts of digits: trimmed, prefixed. Plain. -/
namespace Go.Proofs.YtnpfdelklolchaaGreatDoor
open Go

/-- the ten digits -/
def tenD : List UInt8 := [48, 49, 50, 51, 52, 53, 54, 55, 56, 57]
set_option maxRecDepth 100000 in
theorem tenD_mem (c : UInt8) : tenD.contains c = (decide (48 ≤ c.toNat) && decide (c.toNat ≤ 57)) := by
  have key : ∀ k : Fin 256, tenD.contains (UInt8.ofNat k.val) = (decide (48 ≤ (UInt8.ofNat k.val).toNat) && decide ((UInt8.ofNat k.val).toNat ≤ 57)) := by decide
  have h := key ⟨c.toNat, c.toNat_lt⟩
  simpa using h
theorem trimS_nil (l cs : List UInt8) : (Lib.trimS l cs).isEmpty = l.all (fun c => cs.contains c) := by
  have dw : ∀ l : List UInt8, (l.dropWhile (fun c => cs.contains c)).isEmpty = l.all (fun c => cs.contains c) := by
    intro l
    induction l with
    | nil => rfl
    | cons a r ih =>
      rw [List.dropWhile_cons, List.all_cons]
      cases h : cs.contains a with
      | true => simpa using ih
      | false => simp
  have dl : ∀ l : List UInt8, l.dropWhile (fun c => cs.contains c) = [] ↔ l.all (fun c => cs.contains c) = true := by
    intro l
    rw [← dw l]; simp
  rw [Bool.eq_iff_iff]
  unfold Lib.trimS Lib.trimLeftS Lib.trimRightS
  rw [List.isEmpty_iff, dl]
  simp only [List.all_reverse]
  constructor
  · intro h
    rw [List.all_eq_true] at h ⊢
    intro c hc
    refine Classical.byContradiction fun hn => ?_
    have hne : l.reverse.dropWhile (fun c => cs.contains c) ≠ [] := by
      intro h0
      rw [dl] at h0
      exact hn (List.all_eq_true.1 h0 c (by simpa using hc))
    have hh := List.head_dropWhile_not (p := fun c => cs.contains c) hne
    have := h _ (List.head_mem hne)
    rw [hh] at this
    cases this
  · intro h
    rw [List.all_eq_true] at h ⊢
    intro c hc
    exact h c (by have := (List.dropWhile_sublist (fun c => cs.contains c) (l := l.reverse)).subset hc; simpa using this)
theorem trim_digits (l : List UInt8) : (Lib.trimS l tenD).isEmpty = l.all (fun c => decide (48 ≤ c.toNat) && decide (c.toNat ≤ 57)) := by
  rw [trimS_nil]
  congr 1
  funext c
  exact tenD_mem c
theorem cut_minus (a : List UInt8) : Lib.hasPrefix a [45] = sgB a ∧ Lib.trimPrefix a [45] = unsg a := by
  have h : Lib.hasPrefix a [45] = sgB a := by
    cases a with
    | nil => rfl
    | cons c r =>
      show (45 == c && true) = (some c == some 45)
      rw [Bool.and_true, Bool.eq_iff_iff, beq_iff_eq, beq_iff_eq]
      exact ⟨fun h => by rw [h], fun h => (Option.some.inj h).symm⟩
  exact ⟨h, by unfold Lib.trimPrefix unsg; rw [h]; rfl⟩
end Go.Proofs.YtnpfdelklolchaaGreatDoor
