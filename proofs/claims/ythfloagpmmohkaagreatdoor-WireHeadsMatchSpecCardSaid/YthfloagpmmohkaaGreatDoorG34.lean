import Derived.Test.YthfloagpmmohkaaGreatDoorG33
import Derived.Test.YthfloagpmmohkaaGreatDoorShelf
import Derived.Test.YthfloagpmmohkaaGreatDoorProg
import Derived.Handy
import Derived.WalkSpells
import Derived.WalkLawsBesides
import Derived.Deep.QuietTactic
import Derived.BigQuiet
import Derived.Laws.BytesString
import Derived.Lib.ItoaLen
import Derived.Lib.SlBytesRow
import Derived.Lib.BufferRead
import Derived.Lib.AppendStr
/- Ink: what is written is a function of what is to be written. -/
namespace Go.Proofs.YthfloagpmmohkaaGreatDoor
open Go Go.RowKit Go.Proofs Go.Maps

/-- what Int writes -/
def inkInt (n : Int) : List UInt8 := Lib.itoa n ++ [32]
theorem inkInt_length (n : Int) (h0 : -9223372036854775808 ≤ n) (h1 : n ≤ 9223372036854775807) : (inkInt n).length ≤ 22 := by
  have := Lib.itoa_length_le n h0 h1
  simp [inkInt]; omega

/-- block K is an Ink that has written bs -/
def InkAt (w : World) (K base : Nat) (bs : List UInt8) : Prop :=
  K < base ∧ base ≤ w.heap.size ∧ Tab K w ∧ ∃ v, w.heap[K]? = some (.cells #[v] 29 (0, 0)) ∧ w.ownsRow base 5 1 v bs.length (Lib.byteCells bs)
theorem InkAt.fr {may : Nat → Prop} {w w' : World} {K base : Nat} {bs : List UInt8} (h : InkAt w K base bs) (hf : Fr may w w') (hK : ∀ i, i ≤ K → ¬ may i) (hB : ∀ i, base ≤ i → i < w.heap.size → ¬ may i) : InkAt w' K base bs := by
  obtain ⟨h1, h2, h3, v, h4, h5⟩ := h
  exact ⟨h1, Nat.le_trans h2 hf.size, h3.on (hf.below (by omega) (fun i hi => hK i (by omega))), v, (hf.block K (by omega) (hK K (Nat.le_refl _))).trans h4, ownsRow_fr h5 hf (fun i hi => by have := ownsRow_block h5 hi; exact hB i this.1 this.2)⟩

/-- block i is a row of bytes -/
def U8 (w : World) (i : Nat) : Prop := ∃ c fz, w.heap[i]? = some (.cells c 5 fz)
/-- what an Ink's methods leave alone: all but the Ink itself and rows of bytes from 'base' on -/
def InkFr (K base : Nat) (w w' : World) : Prop := Fr (fun i => i = K ∨ (base ≤ i ∧ U8 w i)) w w'
theorem InkFr.refl (K base : Nat) (w : World) : InkFr K base w w := Fr.refl _ _
theorem InkFr.trans {K base : Nat} {w w1 w2 : World} (h1 : InkFr K base w w1) (h2 : InkFr K base w1 w2) : InkFr K base w w2 :=
  ⟨h2.os.trans h1.os, h2.tape.trans h1.tape, h2.output.trans h1.output, Nat.le_trans h1.size h2.size, fun i hi hm => by
    have e1 := h1.block i hi hm
    refine (h2.block i (Nat.lt_of_lt_of_le hi h1.size) ?_).trans e1
    rintro (rfl | ⟨hb, c, fz, hc⟩)
    · exact hm (.inl rfl)
    · exact hm (.inr ⟨hb, c, fz, by rw [← e1]; exact hc⟩)⟩
theorem InkFr.below {K base : Nat} {w w' : World} (h : InkFr K base w w') (hK : K ≤ w.heap.size) (hKb : K ≤ base) : Below K w w' := Fr.below h hK (fun i hi => by omega)
/-- a block that is no row of bytes stays -/
theorem InkFr.keep {K base : Nat} {w w' : World} (h : InkFr K base w w') {i : Nat} {c : Array Value} {t : TypeId} {fz : Nat × Nat} (hi : w.heap[i]? = some (.cells c t fz)) (ht : t ≠ 5) (hK : i ≠ K) : w'.heap[i]? = some (.cells c t fz) := by
  refine (h.block i (heap_lt hi) ?_).trans hi
  rintro (e | ⟨_, c', fz', hc⟩)
  · exact hK e
  · rw [hi] at hc
    simp only [Option.some.injEq, Obj.cells.injEq] at hc
    exact ht hc.2.1
theorem InkFr.alloc {K base : Nat} {w w' : World} (h : InkFr K base w w') (o : Obj) : InkFr K base w (w'.alloc o) := Fr.alloc h o
theorem ownBlock_u8 {w : World} {base n : Nat} {v : Value} {xs : List Value} (h : w.ownsRow base 5 1 v n xs) {i : Nat} (hi : some i = v.ownBlock) : base ≤ i ∧ U8 w i := by
  rcases h.2 with ⟨rfl, _⟩ | ⟨g, cap, cur, rfl, hb, hh, hr⟩
  · cases hi
  · cases hi; exact ⟨hb, cur, (0, 0), hh⟩

theorem Tryz.info8 : (Tryz.prog.info? 5).map (fun i => (i.zero, i.size, i.bytes)) = some (some (.int .u8 0), 1, 1) := by kernel_rfl

theorem told_any0 (K base : Nat) (bs : List UInt8) (w : World) (h : InkAt w K base bs) (hl : bs.length < 100000000000000) :
    Calls Tryz.prog 13 #[.pointer (some ⟨K, 0, none⟩)] w fun e w' => e = .returned (.string ⟨bs.toArray⟩) ∧ w = w' := by
  obtain ⟨hKb, hbw, htab, v, hbx, hown⟩ := h
  have hc : w.cell? ⟨K, 0, none⟩ = some v := by rw [cellsAt hbx]; rfl
  obtain ⟨A, cap, rfl, hnc, hcm, hAn⟩ := ownsRow_shape hown
  have hrun : (convert 27 9 (.slice A bs.length cap)).run Tryz.prog w = .ok (.string ⟨bs.toArray⟩) w := by
    rcases hown.2 with ⟨hv, h0⟩ | ⟨g, cap', cur, hv, hb, hh, h1, h2, h3, h4⟩
    · obtain rfl : bs = [] := List.eq_nil_of_length_eq_zero h0
      simp only [Value.slice.injEq] at hv
      obtain ⟨rfl, _, rfl⟩ := hv
      exact Lib.run_convert_nil_bytes w 27 9 5 0 Tryz.underlying27 Tryz.underlying5 Tryz.underlying9
    · simp only [Value.slice.injEq, true_and] at hv
      obtain ⟨rfl, rfl⟩ := hv
      have hby : Lib.Bytes w g 0 ⟨bs.toArray⟩ := by
        intro i hi
        rw [cellsAt hh, Nat.zero_add]
        have hi' : i < bs.length := by simpa [ByteArray.size] using hi
        have hg : (Lib.byteCells bs)[i]? = some (.int .u8 (bs[i].toNat : Int)) := by
          unfold Lib.byteCells; rw [List.getElem?_map, List.getElem?_eq_getElem hi']; rfl
        rw [← h4, List.getElem?_take] at hg
        split at hg
        · rw [show (⟨bs.toArray⟩ : ByteArray)[i] = bs[i] from rfl]; simpa using hg
        · cases hg
      have := Lib.run_convert_whole (P := Tryz.prog) w 27 5 9 Tryz.underlying27 Tryz.underlying5 Tryz.underlying9 g 0 ⟨bs.toArray⟩ hby cap
      have hsz : (⟨bs.toArray⟩ : ByteArray).size = bs.length := by simp [ByteArray.size]
      rw [hsz] at this
      exact this
  clear htab hbx hown hAn hcm
  go_enter Tryz.func13, Tryz.ntmps13
  go_wp2
  go_ret
  exact ⟨rfl, rfl⟩

end Go.Proofs.YthfloagpmmohkaaGreatDoor

/- append of a text to a row of bytes of one's own: where the new value lies. -/
namespace Go
open Go.Lib
section
variable {P : Program} (w : World)
theorem own_string_lies (base : Nat) (t u ty e : TypeId) (i : TypeInfo) (ht : P.underlying t = some (.slice e)) (hu : P.underlying u = some .string) (hi : P.info? e = some i) (hz : i.zero = some (.int .u8 0))
    (hsize : i.size = 1) (hby : i.bytes = 1) (v : Value) (n : Nat) (xs : List Value) (hown : w.ownsRow base e 1 v n xs) (s : ByteArray)
    (h63 : n + s.size ≤ maxLen) (hbytes : n + s.size ≤ 140737488355328) (hbase : base ≤ w.heap.size) :
    ∃ v' w', (Builtin.append_ #[t, u] ty #[v, .string s]).run P w = .ok v' w' ∧ w'.ownsRow base e 1 v' (n + s.size) (xs ++ strCells s) ∧ w.grownBy w' v.ownBlock ∧
      (v'.ownBlock = v.ownBlock ∨ v'.ownBlock = some w.heap.size) := by
  obtain ⟨v', w', hr, h1, h2, h3⟩ := run_append_own_string (P := P) w base t u ty e i ht hu hi hz hsize hby v n xs hown s h63 hbytes hbase
  refine ⟨v', w', hr, h1, h2, ?_⟩
  have hsmall : n + s.size ≤ 9223372036854775807 := by simp only [maxLen] at h63; omega
  have hxl : xs.length = n := by simpa using hown.1
  rcases hown.2 with ⟨rfl, rfl⟩ | ⟨g, cap, cur, rfl, hbg, hg, hnc, hcm, hcs, htake⟩
  · by_cases hm : s.size = 0
    · have := h3.2 ⟨rfl, hm⟩
      exact .inl (by rw [this])
    · have hr2 := run_append_nil_string (P := P) w t u ty e i (.int .u8 0) ht hu hi hz s (by omega) (by omega) (by rw [hby]; omega)
      have := (Result.ok.inj (hr.symm.trans hr2)).1
      exact .inr (by rw [this]; rfl)
  · by_cases hroom : n + s.size ≤ cap
    · have hcs' : cur.size = cap := by simpa using hcs
      have hr2 := run_append_room_string (P := P) w t u ty e i ht hu hi hsize g n cap cur hg s hroom (by omega)
      have := (Result.ok.inj (hr.symm.trans hr2)).1
      exact .inl (by rw [this]; rfl)
    · have holds : ∀ j u, xs[j]? = some u → w.cell? ((⟨g, 0, none⟩ : Addr).add j) = some u := hown.cells (g := g) rfl
      have hr2 := run_append_grow_string (P := P) w t u ty e i (.int .u8 0) ht hu hi hz ⟨g, 0, none⟩ n cap xs (by rw [hsize]; simpa using hxl) holds s (by omega) (by omega) (by rw [hby]; exact growslice_fits (by omega) (by omega))
      have := (Result.ok.inj (hr.symm.trans hr2)).1
      exact .inr (by rw [this]; rfl)
/-- the operation -/
theorem wpList_append_lies_string {ops : Array Oper} {rest : List Oper} {o : Oper} {a : Act} {Q : Exit → Act → World → Prop} (hgd : o.guard = none) (sl x : Operand) (t u : TypeId)
    (ho : o.op = .call { callee := .builtin .append, args := #[sl, x], argTypes := #[t, u] })
    (base : Nat) (e : TypeId) (i : TypeInfo) (ht : P.underlying t = some (.slice e)) (hu : P.underlying u = some .string) (hi : P.info? e = some i) (hz : i.zero = some (.int .u8 0))
    (hsize : i.size = 1) (hby : i.bytes = 1)
    (v : Value) (n : Nat) (xs : List Value) (hs : a.eval sl = v) (hown : w.ownsRow base e 1 v n xs) (s : ByteArray) (hx : a.eval x = .string s)
    (h63 : n + s.size ≤ maxLen) (hbytes : n + s.size ≤ 140737488355328) (hbase : base ≤ w.heap.size)
    (h : ∀ v' w', w'.ownsRow base e 1 v' (n + s.size) (xs ++ strCells s) → w.grownBy w' v.ownBlock → (v'.ownBlock = v.ownBlock ∨ v'.ownBlock = some w.heap.size) → wpList P ops Q rest (a.put o.dst v') w') : wpList P ops Q (o :: rest) a w := by
  refine wpList_plain hgd fun K hK => ?_
  obtain ⟨v', w', hr, h2, h3, h4⟩ := own_string_lies (P := P) w base t u o.type e i ht hu hi hz hsize hby v n xs hown s h63 hbytes hbase
  unfold Oper.wp execOp
  simp only [ho, resolve, invoke, builtin, Sem.run_bind, Sem.run_pure, Result.andThen_ok, List.map_toArray, List.map_cons, List.map_nil, hs, hx, hr]
  exact hK _ _ (h v' w' h2 h3 h4)
end
end Go
