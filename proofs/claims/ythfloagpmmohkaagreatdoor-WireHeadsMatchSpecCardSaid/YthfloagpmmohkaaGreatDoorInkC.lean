/- Ink, with a fine frame: a write turns the Ink, its own row, and new blocks. -/
import Derived.Test.YthfloagpmmohkaaGreatDoorG34
import Derived.Test.YthfloagpmmohkaaGreatDoorAppI
namespace Go.Proofs.YthfloagpmmohkaaGreatDoor
open Go Go.RowKit Go.Proofs

/-- block i is the row of the Ink in block K -/
def InkOwn (w : World) (K i : Nat) : Prop := ∃ v fz, w.heap[K]? = some (.cells #[v] 29 fz) ∧ some i = v.ownBlock
structure InkFc (K base : Nat) (w w' : World) : Prop extends Fr (fun i => i = K ∨ (base ≤ i ∧ U8 w i ∧ InkOwn w K i)) w w' where
  own : ∀ i, i < w.heap.size → InkOwn w' K i → InkOwn w K i
theorem InkFc.refl (K base : Nat) (w : World) : InkFc K base w w := ⟨Fr.refl _ _, fun _ _ h => h⟩
theorem InkFc.trans {K base : Nat} {w w1 w2 : World} (h1 : InkFc K base w w1) (h2 : InkFc K base w1 w2) : InkFc K base w w2 :=
  ⟨⟨h2.os.trans h1.os, h2.tape.trans h1.tape, h2.output.trans h1.output, Nat.le_trans h1.size h2.size, fun i hi hm => by
    have e1 := h1.block i hi hm
    refine (h2.block i (Nat.lt_of_lt_of_le hi h1.size) ?_).trans e1
    rintro (rfl | ⟨hb, ⟨c, fz, hc⟩, ho⟩)
    · exact hm (.inl rfl)
    · exact hm (.inr ⟨hb, ⟨c, fz, by rw [← e1]; exact hc⟩, h1.own i hi ho⟩)⟩, fun i hi ho => h1.own i hi (h2.own i (Nat.lt_of_lt_of_le hi h1.size) ho)⟩
theorem InkFc.below {K base : Nat} {w w' : World} (h : InkFc K base w w') (hK : K ≤ w.heap.size) (hKb : K ≤ base) : Below K w w' := Fr.below h.toFr hK (fun i hi => by omega)
/-- a block that is no row of bytes stays -/
theorem InkFc.keep {K base : Nat} {w w' : World} (h : InkFc K base w w') {i : Nat} {c : Array Value} {t : TypeId} {fz : Nat × Nat} (hi : w.heap[i]? = some (.cells c t fz)) (ht : t ≠ 5) (hK : i ≠ K) : w'.heap[i]? = some (.cells c t fz) := by
  refine (h.block i (heap_lt hi) ?_).trans hi
  rintro (e | ⟨_, ⟨c', fz', hc⟩, _⟩)
  · exact hK e
  · rw [hi] at hc
    simp only [Option.some.injEq, Obj.cells.injEq] at hc
    exact ht hc.2.1
theorem InkFc.alloc {K base : Nat} {w w' : World} (h : InkFc K base w w') (hK : K < w'.heap.size) (o : Obj) : InkFc K base w (w'.alloc o) := ⟨Fr.alloc h.toFr o, fun i hi ho => h.own i hi (by
  obtain ⟨v, fz, h1, h2⟩ := ho
  exact ⟨v, fz, by rw [← h1]; exact (Below.heap_alloc _ _ _ hK).symm, h2⟩)⟩
theorem InkFc.fr {K base : Nat} {w w' : World} (h : InkFc K base w w') : InkFr K base w w' := h.toFr.mono (fun i _ hi => hi.elim .inl (fun h => .inr ⟨h.1, h.2.1⟩))
/-- another Ink is left alone -/
theorem InkFc.other {K base K2 base2 : Nat} {bs : List UInt8} {w w' : World} (h : InkFc K base w w') (h2 : InkAt w K2 base2 bs) (hK : K2 < K ∨ K < K2) (hb : K2 < base) (hap : ∀ i, InkOwn w K i → InkOwn w K2 i → False) (hKb : K < base2) (hT : ∀ W, Fr (fun i => i = K ∨ (base ≤ i ∧ U8 w i ∧ InkOwn w K i)) w W → Tab K2 w → Tab K2 W) : InkAt w' K2 base2 bs := by
  obtain ⟨h1, h3, h4, v, h5, h6⟩ := h2
  refine ⟨h1, Nat.le_trans h3 h.size, hT _ h.toFr h4, v, (h.block K2 (heap_lt h5) ?_).trans h5, ownsRow_fr h6 h.toFr (fun i hi hm => ?_)⟩
  · rintro (e | ⟨hb2, _, _⟩)
    · omega
    · omega
  · rcases hm with e | ⟨_, _, ho⟩
    · have := (ownsRow_block h6 hi).1; omega
    · exact hap i ho ⟨v, _, h5, hi⟩
set_option maxHeartbeats 1000000 in
set_option maxRecDepth 100000 in
theorem inkIntC (K base : Nat) (bs : List UInt8) (n : Int) (w : World) (h : InkAt w K base bs) (hl : bs.length < 100000000000000) (h0 : -9223372036854775808 ≤ n) (h1 : n ≤ 9223372036854775807) :
    Calls Tryz.prog 46 #[.pointer (some ⟨K, 0, none⟩), .int .i64 n] w fun e w' => e = .returned (.tuple #[]) ∧ InkAt w' K base (bs ++ inkInt n) ∧ InkFc K base w w' := by
  obtain ⟨hKb, hbw, htab, v, hbx, hown⟩ := h
  obtain ⟨i0, hi, hz0, hz1, hz2⟩ := info_parts Tryz.info8
  have hc : w.cell? ⟨K, 0, none⟩ = some v := by rw [cellsAt hbx]; rfl
  have HA := Lib.hid (appI_any base bs.length n h0 h1 v (Lib.byteCells bs) w hown hbw (by omega) (htab.mono (by omega)))
  have HT := Lib.hid htab
  have HB := Lib.hid hbx
  have hit := Lib.itoa_length_le n h0 h1
  have HOW := Lib.hid hown
  have hKw : K < w.heap.size := heap_lt hbx
  clear hown htab hbx h0 h1
  go_enter Tryz.func46, Tryz.ntmps46
  go_wp2_with fail
  refine HA.out.mono ?_
  rintro e w1 ⟨v1, rfl, ho1, hf1, hat1⟩
  obtain ⟨A1, cap1, rfl, -, -, -⟩ := ownsRow_shape ho1
  have HF1 := Lib.hid hf1
  have HAT1 := Lib.hid hat1
  have hs1 := hf1.size
  have hbx1 : w1.heap[K]? = some (.cells #[v] 29 (0, 0)) := (hf1.block K hKw (fun hm => by have := (ownsRow_block HOW.out hm).1; omega)).trans HB.out
  have hc1 : w1.cell? ⟨K, 0, none⟩ = some v := by rw [cellsAt hbx1]; rfl
  have hz1' : w1.frozen? ⟨K, 0, none⟩ = false := frozenAt hbx1 0
  have hbx2 : (w1.setCell ⟨K, 0, none⟩ (.slice A1 (bs.length + (Lib.itoa n).length) cap1)).heap[K]? = some (.cells #[.slice A1 (bs.length + (Lib.itoa n).length) cap1] 29 (0, 0)) := by
    simp [World.setCell, Array.getElem?_modify, hbx1]
  have hf2 : Fr (fun i => i = K) w1 (w1.setCell ⟨K, 0, none⟩ (.slice A1 (bs.length + (Lib.itoa n).length) cap1)) := (Fr.refl (fun i => i = K) w1).setCell (fun _ => rfl) _
  have HO2 := Lib.hid (ownsRow_fr ho1 hf2 (fun i hi => by have := (ownsRow_block ho1 hi).1; omega))
  have HX2 := Lib.hid hbx2
  have HF2 := Lib.hid hf2
  clear ho1 hbx1 hbx2 hf1 hat1 hf2 HA
  go_wp2_with (at_builtin; go_loud (refine wpList_append_lies _ rfl (.tmp 17) (.tmp 18) 27 rfl base 5 i0 (.int .u8 0) 1 1 Tryz.underlying27 hi hz0 hz1 hz2 rfl (by decide) (.slice A1 (bs.length + (Lib.itoa n).length) cap1) (bs.length + (Lib.itoa n).length) (Lib.byteCells bs ++ Lib.byteCells (Lib.itoa n)) rfl (HO2.out.alloc _) ⟨w1.heap.size, 0, none⟩ 1 1 [.int .u8 32] rfl rfl ?c0 (by simp [Value.oneCell']) (by decide) ?c3 ?c4 ?c5 (w1.heap.size + 1) (by simp) ?_))
  case c0 => have := cell_one_new (w1.setCell ⟨K, 0, none⟩ (.slice A1 (bs.length + (Lib.itoa n).length) cap1)) (.int .u8 32) 5; simpa using this
  case c3 => unfold maxLen; omega
  case c4 => omega
  case c5 => simp; omega
  intro g2 cap2 w2 ho3 hg3 hat3 hlt3
  have hsz2 : w1.heap.size + 1 ≤ w2.heap.size := by have := hg3.size; simpa using this
  have hne : ∀ i, some i = (Value.slice A1 (bs.length + (Lib.itoa n).length) cap1).ownBlock → base ≤ i := fun i hi => (ownsRow_block HO2.out hi).1
  have hbx3 : w2.heap[K]? = some (.cells #[.slice A1 (bs.length + (Lib.itoa n).length) cap1] 29 (0, 0)) := by
    rw [(Fr.of_grown hg3).block K (by simp; omega) (fun hm => by have := hne K hm; omega)]
    exact (Below.heap_alloc _ _ _ (by simp; omega)).trans HX2.out
  have hc3 : w2.cell? ⟨K, 0, none⟩ = some (.slice A1 (bs.length + (Lib.itoa n).length) cap1) := by rw [cellsAt hbx3]; rfl
  have hz3 : w2.frozen? ⟨K, 0, none⟩ = false := frozenAt hbx3 0
  have hg2b : base ≤ g2 := (ownsRow_block ho3 rfl).1
  have hf13 : Fr (fun i => i = K ∨ some i = v.ownBlock) w w2 := (((HF1.out.mono (may' := fun i => i = K ∨ some i = v.ownBlock) (fun i _ h => .inr h)).trans HF2.out (fun i _ h => .inl h)).alloc _).trans (Fr.of_grown hg3) (fun i hi h => by
    rcases HAT1.out with hh | ⟨b, hh, hb⟩
    · right; rw [← hh]; exact h
    · rw [hh] at h
      have := Option.some.inj h
      omega)
  have HO3 := Lib.hid ho3
  have HB3 := Lib.hid hbx3
  have HF3 := Lib.hid hf13
  have HAT3 := Lib.hid hat3
  clear hbx3 ho3 hg3 hat3 hne hf13
  go_wp2
  go_end0
  have hf4 : Fr (fun i => i = K ∨ some i = v.ownBlock) w (w2.setCell ⟨K, 0, none⟩ (.slice (some ⟨g2, 0, none⟩) (bs.length + (Lib.itoa n).length + 1) cap2)) := Fr.setCell HF3.out (fun _ => .inl rfl) _
  have hK4 : (w2.setCell ⟨K, 0, none⟩ (.slice (some ⟨g2, 0, none⟩) (bs.length + (Lib.itoa n).length + 1) cap2)).heap[K]? = some (.cells #[.slice (some ⟨g2, 0, none⟩) (bs.length + (Lib.itoa n).length + 1) cap2] 29 (0, 0)) := by
    have := HB3.out
    simp [World.setCell, Array.getElem?_modify, this]
  have hbel : Below K w (w2.setCell ⟨K, 0, none⟩ (.slice (some ⟨g2, 0, none⟩) (bs.length + (Lib.itoa n).length + 1) cap2)) := hf4.below (by omega) (fun i hi h => h.elim (fun h => by omega) (fun h => by have := (ownsRow_block HOW.out h).1; omega))
  refine ⟨rfl, ⟨hKb, Nat.le_trans hbw hf4.size, HT.out.on hbel, _, hK4, ?_⟩, ⟨hf4.mono (fun i hi h => h.elim .inl (fun h => .inr ⟨(ownBlock_u8 HOW.out h).1, (ownBlock_u8 HOW.out h).2, ⟨v, _, HB.out, h⟩⟩)), fun i hi ho => ?_⟩⟩
  · have hgK : g2 ≠ K := by omega
    have h2 := ownsRow_fr (may := fun i => i = K) HO3.out ((Fr.refl (fun i => i = K) w2).setCell (p := ⟨K, 0, none⟩) (fun _ => rfl) (.slice (some ⟨g2, 0, none⟩) (bs.length + (Lib.itoa n).length + 1) cap2)) (fun i hi => by cases hi; exact hgK)
    have e1 : (bs ++ inkInt n).length = bs.length + (Lib.itoa n).length + 1 := by simp [inkInt]; omega
    have e2 : Lib.byteCells (bs ++ inkInt n) = Lib.byteCells bs ++ (Lib.byteCells (Lib.itoa n) ++ [.int .u8 32]) := by simp [inkInt, Lib.byteCells]
    rw [e1, e2]; exact h2
  · obtain ⟨v', fz, hv', hi'⟩ := ho
    rw [hK4] at hv'
    simp only [Option.some.injEq, Obj.cells.injEq] at hv'
    have hv2 : v' = .slice (some ⟨g2, 0, none⟩) (bs.length + (Lib.itoa n).length + 1) cap2 := by have := congrArg (fun (a : Array Value) => a[0]?) hv'.1; simpa using this.symm
    rw [hv2] at hi'
    have hgi : i = g2 := Option.some.inj (show some i = some g2 from hi')
    refine ⟨v, _, HB.out, ?_⟩
    rcases HAT3.out with h | h
    · rcases HAT1.out with hh | ⟨b, hh, hb⟩
      · rw [← hh, h, hgi]
      · rw [hh] at h
        have := Option.some.inj h
        omega
    · omega
end Go.Proofs.YthfloagpmmohkaaGreatDoor
