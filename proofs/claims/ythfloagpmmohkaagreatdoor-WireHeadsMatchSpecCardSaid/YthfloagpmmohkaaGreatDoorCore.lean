/- wire's reader of messages: its state in memory. -/
import Derived.Test.YthfloagpmmohkaaGreatDoorCoreM
import Derived.Test.YthfloagpmmohkaaGreatDoorMem
import Derived.Test.YthfloagpmmohkaaGreatDoorG3
import Derived.Lib.Strings
import Derived.Lib.UnsafeStr
namespace Go.Proofs.YthfloagpmmohkaaGreatDoor
open Go Go.RowKit Go.Proofs

/-- a text as a value -/
abbrev tx (l : List UInt8) : Value := .string ⟨l.toArray⟩
/-- pairs as cells -/
def prC (h : List Pr) : List Value := h.flatMap fun p => [tx p.1, tx p.2]
theorem prC_length (h : List Pr) : (prC h).length = h.length * 2 := flat_length _ 2 (fun _ => rfl) h
theorem prC_append (a b : List Pr) : prC (a ++ b) = prC a ++ prC b := by simp [prC]
/-- a message, and where its head lies -/
structure MsgX where
  m : Msg
  hA : Option Addr
  hc : Nat
def msgV (m : Msg) (h : Value) : List Value := [.bool m.req, tx m.meth, tx m.targ, .int .i64 m.status, tx m.reason, h, tx m.body]
def msgsC (l : List MsgX) : List Value := l.flatMap fun x => msgV x.m (.slice x.hA x.m.head.length x.hc)
theorem msgsC_append (a b : List MsgX) : msgsC (a ++ b) = msgsC a ++ msgsC b := by simp [msgsC]
/-- the block of a slice has cells of this type -/
def TyAt (w : World) (t : TypeId) (A : Option Addr) (n : Nat) : Prop := 0 < n → ∃ b o c fz, A = some ⟨b, o, none⟩ ∧ w.heap[b]? = some (.cells c t fz)
/-- a head that can be read -/
def HdR (w : World) (A : Option Addr) (h : List Pr) : Prop := Rd w 0 w.heap.size 2 A h.length (prC h) ∧ TyAt w 69 A h.length
/-- a row of one's own, perhaps not from its block's beginning on -/
def OffR (w : World) (base : Nat) (e : TypeId) (k : Nat) (v : Value) (n : Nat) (xs : List Value) : Prop :=
  xs.length = n * k ∧ ((v = .slice none 0 0 ∧ n = 0) ∨ ∃ g o cap cur, v = .slice (some ⟨g, o, none⟩) n cap ∧ base ≤ g ∧ w.heap[g]? = some (.cells cur e (0, 0)) ∧ n ≤ cap ∧ cap ≤ maxLen ∧ o + cap * k ≤ cur.size ∧ (cur.toList.drop o).take (n * k) = xs)
theorem OffR.of_own {w : World} {base : Nat} {e : TypeId} {k n : Nat} {v : Value} {xs : List Value} (h : w.ownsRow base e k v n xs) : OffR w base e k v n xs := by
  refine ⟨h.1, ?_⟩
  rcases h.2 with h0 | ⟨g, cap, cur, hv, hb, hh, h1, h2, h3, h4⟩
  · exact .inl h0
  · exact .inr ⟨g, 0, cap, cur, hv, hb, hh, h1, h2, by omega, by simpa using h4⟩
theorem OffR.block {w : World} {base : Nat} {e : TypeId} {k n : Nat} {v : Value} {xs : List Value} (h : OffR w base e k v n xs) {i : Nat} (hi : some i = v.ownBlock) : base ≤ i ∧ i < w.heap.size ∧ ∃ c, w.heap[i]? = some (.cells c e (0, 0)) := by
  rcases h.2 with ⟨rfl, _⟩ | ⟨g, o, cap, cur, rfl, hb, hh, hr⟩
  · cases hi
  · cases hi
    exact ⟨hb, heap_lt hh, _, hh⟩
theorem OffR.fr {may : Nat → Prop} {w w' : World} {base : Nat} {e : TypeId} {k n : Nat} {v : Value} {xs : List Value} (h : OffR w base e k v n xs) (hf : Fr may w w') (hm : ∀ i, some i = v.ownBlock → ¬ may i) : OffR w' base e k v n xs := by
  refine ⟨h.1, ?_⟩
  rcases h.2 with h0 | ⟨g, o, cap, cur, hv, hb, hh, hr⟩
  · exact .inl h0
  · exact .inr ⟨g, o, cap, cur, hv, hb, (hf.block g (heap_lt hh) (hm g (by rw [hv]; rfl))).trans hh, hr⟩
theorem own_type {w : World} {base : Nat} {e : TypeId} {k n : Nat} {v : Value} {xs : List Value} (h : w.ownsRow base e k v n xs) {i : Nat} (hi : some i = v.ownBlock) : ∃ c, w.heap[i]? = some (.cells c e (0, 0)) := by
  rcases h.2 with ⟨rfl, _⟩ | ⟨g, cap, cur, rfl, hb, hh, hr⟩
  · cases hi
  · cases hi
    exact ⟨_, hh⟩
/-- the values of a state's slices -/
structure CrV where
  vw : Value
  vb : Value
  vh : Value
  vd : Value
  l : List MsgX
/-- the cells of a state -/
def crC (c : Cr) (v : CrV) : List Value :=
  [.bool c.req, .int .i64 c.pos, .int .i64 c.place, .bool c.begun, .bool c.m.req, tx c.m.meth, tx c.m.targ, .int .i64 c.m.status, tx c.m.reason, v.vh, tx c.m.body,
   v.vw, .int .i64 c.line, .int .i64 c.kind, .int .i64 c.length, .int .i64 c.first, .bool c.lengths, .bool c.coding, .bool c.closed, v.vb, v.vd, .int .i64 c.fault, .int .i64 c.no]
theorem crC_length (c : Cr) (v : CrV) : (crC c v).length = 23 := rfl
/-- the state lies in block K (with further cells behind it), what it holds lies from base on -/
structure CrR (T : TypeId) (ex : List Value) (w : World) (K base : Nat) (c : Cr) (v : CrV) : Prop where
  kb : K < base
  bw : base ≤ w.heap.size
  box : w.heap[K]? = some (.cells (crC c v ++ ex).toArray T (0, 0))
  word : w.ownsRow base 5 1 v.vw c.word.length (Lib.byteCells c.word)
  body : c.begun = true → w.ownsRow base 5 1 v.vb c.body.length (Lib.byteCells c.body)
  head : c.begun = true → w.ownsRow base 69 2 v.vh c.m.head.length (prC c.m.head)
  done : OffR w base 38 7 v.vd v.l.length (msgsC v.l)
  msgs : v.l.map (·.m) = c.done
  heads : ∀ x ∈ v.l, HdR w x.hA x.m.head
  s1 : c.begun = true → ∀ i, some i = v.vw.ownBlock → some i ≠ v.vb.ownBlock
  s2 : c.begun = true → ∀ x ∈ v.l, 0 < x.m.head.length → ∀ b o, x.hA = some ⟨b, o, none⟩ → some b ≠ v.vh.ownBlock
section
variable {T : TypeId} {ex : List Value} {w w' : World} {K base : Nat} {c : Cr} {v : CrV}
theorem CrR.lt (h : CrR T ex w K base c v) : K < w.heap.size := heap_lt h.box
theorem CrR.cell (h : CrR T ex w K base c v) (j : Nat) {u : Value} (hj : (crC c v)[j]? = some u) : w.cell? ⟨K, j, none⟩ = some u := by
  have hl : j < 23 := by have := (List.getElem?_eq_some_iff.1 hj).1; rwa [crC_length] at this
  rw [cellsAt h.box]
  simp only [List.getElem?_toArray]
  rw [List.getElem?_append_left (by rw [crC_length]; exact hl)]
  exact hj
theorem CrR.frz (h : CrR T ex w K base c v) (j : Nat) : w.frozen? ⟨K, j, none⟩ = false := frozenAt h.box j
/-- block i belongs to the state in block K -/
def CrOwn (w : World) (K i : Nat) : Prop := ∃ cs T fz, w.heap[K]? = some (.cells cs T fz) ∧ ∃ j u, (j = 9 ∨ j = 11 ∨ j = 19 ∨ j = 20) ∧ cs[j]? = some u ∧ some i = u.ownBlock
theorem CrR.own_iff (h : CrR T ex w K base c v) {i : Nat} : CrOwn w K i ↔ some i = v.vh.ownBlock ∨ some i = v.vw.ownBlock ∨ some i = v.vb.ownBlock ∨ some i = v.vd.ownBlock := by
  have e : ∀ j, j < 23 → ((crC c v ++ ex).toArray)[j]? = (crC c v)[j]? := fun j hj => by
    simp only [List.getElem?_toArray]
    rw [List.getElem?_append_left (by rw [crC_length]; exact hj)]
  constructor
  · rintro ⟨cs, T', fz, h1, j, u, hj, h2, h3⟩
    rw [h.box] at h1
    simp only [Option.some.injEq, Obj.cells.injEq] at h1
    rw [← h1.1] at h2
    rcases hj with rfl | rfl | rfl | rfl
    · rw [e 9 (by omega)] at h2; cases h2; exact .inl h3
    · rw [e 11 (by omega)] at h2; cases h2; exact .inr (.inl h3)
    · rw [e 19 (by omega)] at h2; cases h2; exact .inr (.inr (.inl h3))
    · rw [e 20 (by omega)] at h2; cases h2; exact .inr (.inr (.inr h3))
  · rintro (h3 | h3 | h3 | h3)
    · exact ⟨_, _, _, h.box, 9, v.vh, .inl rfl, by rw [e 9 (by omega)]; rfl, h3⟩
    · exact ⟨_, _, _, h.box, 11, v.vw, .inr (.inl rfl), by rw [e 11 (by omega)]; rfl, h3⟩
    · exact ⟨_, _, _, h.box, 19, v.vb, .inr (.inr (.inl rfl)), by rw [e 19 (by omega)]; rfl, h3⟩
    · exact ⟨_, _, _, h.box, 20, v.vd, .inr (.inr (.inr rfl)), by rw [e 20 (by omega)]; rfl, h3⟩
/-- what a method leaves alone: all but the state and what it held -/
structure CrF (K : Nat) (w w' : World) : Prop extends Fr (fun i => i = K ∨ CrOwn w K i) w w' where
  own : ∀ i, i < w.heap.size → CrOwn w' K i → CrOwn w K i
theorem CrF.refl (K : Nat) (w : World) : CrF K w w := ⟨Fr.refl _ _, fun _ _ h => h⟩
theorem CrF.trans {w1 w2 : World} (h1 : CrF K w w1) (h2 : CrF K w1 w2) : CrF K w w2 :=
  ⟨Fr.trans h1.toFr h2.toFr (fun i hi hm => hm.elim .inl (fun ho => .inr (h1.own i hi ho))), fun i hi ho => h1.own i hi (h2.own i (Nat.lt_of_lt_of_le hi h1.size) ho)⟩
theorem CrF.alloc (h : CrF K w w') (hK : K < w'.heap.size) (o : Obj) : CrF K w (w'.alloc o) := ⟨Fr.alloc h.toFr o, fun i hi ho => h.own i hi (by
  obtain ⟨cs, T', fz, h1, h2⟩ := ho
  exact ⟨cs, T', fz, by rw [← h1]; exact (Below.heap_alloc _ _ _ hK).symm, h2⟩)⟩
/-- new blocks: the state stays -/
theorem CrR.alloc (h : CrR T ex w K base c v) (o : Obj) : CrR T ex (w.alloc o) K base c v := by
  have hf : Fr (fun _ => False) w (w.alloc o) := (Fr.refl _ w).alloc o
  have hs := hf.size
  refine ⟨h.kb, Nat.le_trans h.bw hs, (Below.heap_alloc _ _ _ h.lt).trans h.box, ownsRow_fr h.word hf (fun _ _ h => h), fun hb => ownsRow_fr (h.body hb) hf (fun _ _ h => h), fun hb => ownsRow_fr (h.head hb) hf (fun _ _ h => h), h.done.fr hf (fun _ _ h => h), h.msgs, fun x hx => ?_, h.s1, h.s2⟩
  obtain ⟨h1, h2⟩ := h.heads x hx
  refine ⟨(h1.alloc (Nat.le_refl _) o).more (Nat.le_refl _) hs, fun hp => ?_⟩
  obtain ⟨b, o', c', fz, e, hb⟩ := h2 hp
  exact ⟨b, o', c', fz, e, (Below.heap_alloc _ _ _ (heap_lt hb)).trans hb⟩
end
/-- the types of the blocks are apart -/
structure TyOk (T : TypeId) : Prop where
  u : T ≠ 5
  p : T ≠ 69
  m : T ≠ 38
theorem ty_up : 5 ≠ 69 := by decide
theorem ty_um : 5 ≠ 38 := by decide
theorem ty_pm : 69 ≠ 38 := by decide
section
variable {T : TypeId} {ex : List Value} {w w' : World} {K base : Nat} {c c' : Cr} {v v' : CrV}
theorem ty_ne {w : World} {i : Nat} {c1 c2 : Array Value} {t1 t2 : TypeId} {f1 f2 : Nat × Nat} (h1 : w.heap[i]? = some (.cells c1 t1 f1)) (h2 : w.heap[i]? = some (.cells c2 t2 f2)) : t1 = t2 := by
  rw [h1] at h2
  simp only [Option.some.injEq, Obj.cells.injEq] at h2
  exact h2.2.1
/-- a cell of the state itself is stored, none of its slices -/
theorem CrR.put (hT : TyOk T) (h : CrR T ex w K base c v) (j : Nat) (u : Value) (hj : (crC c v).set j u = crC c' v) (hj2 : j < 23) (hw : c'.word = c.word) (hb : c'.begun = true → c.begun = true ∧ c'.body = c.body ∧ c'.m.head = c.m.head) (hd : c'.done = c.done) :
    CrR T ex (w.setCell ⟨K, j, none⟩ u) K base c' v ∧ CrF K w (w.setCell ⟨K, j, none⟩ u) := by
  have hf : Fr (fun i => i = K) w (w.setCell ⟨K, j, none⟩ u) := (Fr.refl (fun i => i = K) w).setCell (p := ⟨K, j, none⟩) (fun _ => rfl) u
  have hbox : (w.setCell ⟨K, j, none⟩ u).heap[K]? = some (.cells (crC c' v ++ ex).toArray T (0, 0)) := by
    simp only [World.setCell, Array.getElem?_modify, h.box, if_true, Option.map_some]
    congr 2
    rw [List.setIfInBounds_toArray, List.set_append_left _ _ (by rw [crC_length]; exact hj2), hj]
    rfl
  have nK : ∀ {e : TypeId} {i : Nat} {c0 : Array Value} {fz : Nat × Nat}, w.heap[i]? = some (.cells c0 e fz) → e ≠ T → i ≠ K := fun h1 hne e0 => hne (ty_ne (by rw [← e0]; exact h1) h.box)
  have hr : CrR T ex (w.setCell ⟨K, j, none⟩ u) K base c' v := by
    refine ⟨h.kb, Nat.le_trans h.bw hf.size, hbox, ?_, fun hb' => ?_, fun hb' => ?_, ?_, by rw [hd]; exact h.msgs, fun x hx => ?_, fun hb' => h.s1 (hb hb').1, fun hb' => h.s2 (hb hb').1⟩
    · rw [hw]
      exact ownsRow_fr h.word hf (fun i hi e => by obtain ⟨c0, h1⟩ := own_type h.word hi; exact nK h1 hT.u.symm e)
    · obtain ⟨b1, b2, _⟩ := hb hb'
      rw [b2]
      exact ownsRow_fr (h.body b1) hf (fun i hi e => by obtain ⟨c0, h1⟩ := own_type (h.body b1) hi; exact nK h1 hT.u.symm e)
    · obtain ⟨b1, _, b3⟩ := hb hb'
      rw [b3]
      exact ownsRow_fr (h.head b1) hf (fun i hi e => by obtain ⟨c0, h1⟩ := own_type (h.head b1) hi; exact nK h1 hT.p.symm e)
    · exact h.done.fr hf (fun i hi e => by obtain ⟨_, _, c0, h1⟩ := h.done.block hi; exact nK h1 hT.m.symm e)
    · obtain ⟨h1, h2⟩ := h.heads x hx
      have hm : ∀ b o, x.hA = some ⟨b, o, none⟩ → 0 < x.m.head.length → b ≠ K := fun b o e hp => by
        obtain ⟨b', o', c0, fz, e', hh⟩ := h2 hp
        rw [e] at e'
        simp only [Option.some.injEq, Addr.mk.injEq, and_true] at e'
        obtain ⟨rfl, _⟩ := e'
        exact nK hh hT.p.symm
      refine ⟨⟨h1.1, fun hp => ?_⟩, fun hp => ?_⟩
      · obtain ⟨b, o, e, hL, hB, hc⟩ := h1.2 hp
        refine ⟨b, o, e, hL, Nat.lt_of_lt_of_le hB hf.size, fun q u' hu => ?_⟩
        rw [← hc q u' hu]
        exact World.cell?_of_block (hf.block b hB (hm b o e hp))
      · obtain ⟨b, o, c0, fz, e, hh⟩ := h2 hp
        exact ⟨b, o, c0, fz, e, (hf.block b (heap_lt hh) (hm b o e hp)).trans hh⟩
  refine ⟨hr, ⟨hf.mono (fun i _ e => .inl e), fun i _ ho => ?_⟩⟩
  rw [h.own_iff]
  exact hr.own_iff.1 ho
end
end Go.Proofs.YthfloagpmmohkaaGreatDoor
