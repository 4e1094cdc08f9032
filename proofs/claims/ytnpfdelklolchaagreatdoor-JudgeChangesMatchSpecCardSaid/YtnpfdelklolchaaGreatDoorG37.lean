import Derived.Test.YtnpfdelklolchaaGreatDoorG21
import Derived.Test.YtnpfdelklolchaaGreatDoorShelf
import Derived.Test.YtnpfdelklolchaaGreatDoorProg
import Derived.Handy
import Derived.WalkSpells
import Derived.WalkLawsBesides
import Derived.Deep.QuietTactic
import Derived.BigQuiet
import Derived.Laws.BytesString
import Derived.Lib.ItoaLen
import Derived.Lib.SlBytesRow
import Derived.Lib.BufferRead
/- Ink: what is written is a function of what is to be written. -/
namespace Go.Proofs.YtnpfdelklolchaaGreatDoor
open Go Go.RowKit Go.Proofs Go.Maps

/-- what Int writes -/
def inkInt (n : Int) : List UInt8 := Lib.itoa n ++ [32]
theorem inkInt_length (n : Int) (h0 : -9223372036854775808 ≤ n) (h1 : n ≤ 9223372036854775807) : (inkInt n).length ≤ 22 := by
  have := Lib.itoa_length_le n h0 h1
  simp [inkInt]; omega

/-- block K is an Ink that has written bs -/
def InkAt (w : World) (K base : Nat) (bs : List UInt8) : Prop :=
  K < base ∧ base ≤ w.heap.size ∧ Tab K w ∧ ∃ v, w.heap[K]? = some (.cells #[v] 40 (0, 0)) ∧ w.ownsRow base 5 1 v bs.length (Lib.byteCells bs)
theorem InkAt.fr {may : Nat → Prop} {w w' : World} {K base : Nat} {bs : List UInt8} (h : InkAt w K base bs) (hf : Fr may w w') (hK : ∀ i, i ≤ K → ¬ may i) (hB : ∀ i, base ≤ i → i < w.heap.size → ¬ may i) : InkAt w' K base bs := by
  obtain ⟨h1, h2, h3, v, h4, h5⟩ := h
  exact ⟨h1, Nat.le_trans h2 hf.size, h3.on (hf.below (by omega) (fun i hi => hK i (by omega))), v, (hf.block K (by omega) (hK K (Nat.le_refl _))).trans h4, ownsRow_fr h5 hf (fun i hi => by have := ownsRow_block h5 hi; exact hB i this.1 this.2)⟩

/-- block i is a row of bytes -/
def U8 (w : World) (i : Nat) : Prop := ∃ c fz, w.heap[i]? = some (.cells c 5 fz)
/-- what an Ink's methods leave alone: all but the Ink itself and rows of bytes from 'base' on -/
def InkFr (K base : Nat) (w w' : World) : Prop := Fr (fun i => i = K ∨ (base ≤ i ∧ U8 w i)) w w'
theorem InkFr.refl (K base : Nat) (w : World) : InkFr K base w w := Fr.refl _ _
theorem InkFr.trans {K base : Nat} {w w1 w2 : World} (h1 : InkFr K base w w1) (h2 : InkFr K base w1 w2) : InkFr K base w w2 :=
  ⟨h2.os.trans h1.os, h2.tape.trans h1.tape, h2.output.trans h1.output, Nat.le_trans h1.size h2.size, fun i hi hm => by
    have e1 := h1.block i hi hm
    refine (h2.block i (Nat.lt_of_lt_of_le hi h1.size) ?_).trans e1
    rintro (rfl | ⟨hb, c, fz, hc⟩)
    · exact hm (.inl rfl)
    · exact hm (.inr ⟨hb, c, fz, by rw [← e1]; exact hc⟩)⟩
theorem InkFr.below {K base : Nat} {w w' : World} (h : InkFr K base w w') (hK : K ≤ w.heap.size) (hKb : K ≤ base) : Below K w w' := Fr.below h hK (fun i hi => by omega)
/-- a block that is no row of bytes stays -/
theorem InkFr.keep {K base : Nat} {w w' : World} (h : InkFr K base w w') {i : Nat} {c : Array Value} {t : TypeId} {fz : Nat × Nat} (hi : w.heap[i]? = some (.cells c t fz)) (ht : t ≠ 5) (hK : i ≠ K) : w'.heap[i]? = some (.cells c t fz) := by
  refine (h.block i (heap_lt hi) ?_).trans hi
  rintro (e | ⟨_, c', fz', hc⟩)
  · exact hK e
  · rw [hi] at hc
    simp only [Option.some.injEq, Obj.cells.injEq] at hc
    exact ht hc.2.1
theorem InkFr.alloc {K base : Nat} {w w' : World} (h : InkFr K base w w') (o : Obj) : InkFr K base w (w'.alloc o) := Fr.alloc h o
theorem ownBlock_u8 {w : World} {base n : Nat} {v : Value} {xs : List Value} (h : w.ownsRow base 5 1 v n xs) {i : Nat} (hi : some i = v.ownBlock) : base ≤ i ∧ U8 w i := by
  rcases h.2 with ⟨rfl, _⟩ | ⟨g, cap, cur, rfl, hb, hh, hr⟩
  · cases hi
  · cases hi; exact ⟨hb, cur, (0, 0), hh⟩

theorem Tryz.info8 : (Tryz.prog.info? 5).map (fun i => (i.zero, i.size, i.bytes)) = some (some (.int .u8 0), 1, 1) := by kernel_rfl

set_option maxHeartbeats 1000000 in
set_option maxRecDepth 100000 in
theorem inkInt_any (K base : Nat) (bs : List UInt8) (n : Int) (w : World) (h : InkAt w K base bs) (hl : bs.length < 100000000000) (h0 : -9223372036854775808 ≤ n) (h1 : n ≤ 9223372036854775807) :
    Calls Tryz.prog 54 #[.pointer (some ⟨K, 0, none⟩), .int .i64 n] w fun e w' => e = .returned (.tuple #[]) ∧ InkAt w' K base (bs ++ inkInt n) ∧ InkFr K base w w' := by
  obtain ⟨hKb, hbw, htab, v, hbx, hown⟩ := h
  obtain ⟨i0, hi, hz0, hz1, hz2⟩ := info_parts Tryz.info8
  have hc : w.cell? ⟨K, 0, none⟩ = some v := by rw [cellsAt hbx]; rfl
  have HA := Lib.hid (Tryz.strconv_AppendInt_10 base bs.length n h0 h1 v (Lib.byteCells bs) w hown hbw (by omega) (htab.mono (by omega)))
  have HT := Lib.hid htab
  have HB := Lib.hid hbx
  have hit := Lib.itoa_length_le n h0 h1
  clear hown htab hbx h0 h1
  go_enter Tryz.func54, Tryz.ntmps54
  go_wp2_with fail
  refine HA.out.mono ?_
  rintro e w1 ⟨v1, rfl, ho1, hb1, hok⟩
  have hfA : InkFr K base w w1 := ⟨hb1.os, hb1.tape, hb1.output, hb1.size, fun i hi hm => by
    by_cases hib : i < base
    · exact hb1.block i hib
    · have hu : ¬ U8 w i := fun hu => hm (.inr ⟨by omega, hu⟩)
      obtain ⟨o, ho⟩ : ∃ o, w.heap[i]? = some o := ⟨w.heap[i], Array.getElem?_eq_getElem hi⟩
      rw [ho]
      exact hok i o ho (by simp) (fun c fz e => hu ⟨c, fz, by rw [ho, e]⟩)⟩
  clear hok
  clear HA
  have hbx1 : w1.heap[K]? = some (.cells #[v] 40 (0, 0)) := (hb1.block K hKb).trans HB.out
  have hc1 : w1.cell? ⟨K, 0, none⟩ = some v := by rw [cellsAt hbx1]; rfl
  have hz1' : w1.frozen? ⟨K, 0, none⟩ = false := frozenAt hbx1 0
  obtain ⟨A1, cap1, rfl, hnc1, hcm1, hAn⟩ := ownsRow_shape ho1
  clear hAn
  have hs1 := hb1.size
  have hbx2 : (w1.setCell ⟨K, 0, none⟩ (.slice A1 (bs.length + (Lib.itoa n).length) cap1)).heap[K]? = some (.cells #[.slice A1 (bs.length + (Lib.itoa n).length) cap1] 40 (0, 0)) := by
    simp [World.setCell, Array.getElem?_modify, hbx1]
  have hf2 : Fr (fun i => i = K) w1 (w1.setCell ⟨K, 0, none⟩ (.slice A1 (bs.length + (Lib.itoa n).length) cap1)) := (Fr.refl (fun i => i = K) w1).setCell (fun _ => rfl) _
  have ho2 := ownsRow_fr ho1 hf2 (fun i hi => by have := (ownsRow_block ho1 hi).1; omega)
  have hf12 : InkFr K base w (w1.setCell ⟨K, 0, none⟩ (.slice A1 (bs.length + (Lib.itoa n).length) cap1)) := hfA.trans (hf2.mono (fun i _ hi => .inl hi))
  have HO2 := Lib.hid ho2
  have HX2 := Lib.hid hbx2
  have HF := Lib.hid hf12
  clear ho1 ho2 hbx1 hbx2 hf2 hf12 hb1 hfA
  have HM1 := Lib.hid hcm1
  have HL := Lib.hid hl
  clear hcm1 hl
  go_wp2_with (at_builtin; refine wpList_append_own _ rfl (.tmp 17) (.tmp 18) 38 rfl base 5 i0 _ 1 1 Tryz.underlying38 hi hz0 hz1 hz2 rfl (by decide) (.slice A1 (bs.length + (Lib.itoa n).length) cap1) (bs.length + (Lib.itoa n).length) (Lib.byteCells bs ++ Lib.byteCells (Lib.itoa n)) rfl (HO2.out.alloc _) ⟨w1.heap.size, 0, none⟩ 1 1 [.int .u8 32] rfl rfl ?c0 (by simp [Value.oneCell']) ?c3 ?c4 ?c5 ?_)
  case c0 => have := cell_one_new (w1.setCell ⟨K, 0, none⟩ (.slice A1 (bs.length + (Lib.itoa n).length) cap1)) (.int .u8 32) 5; simpa using this
  case c3 => have := HL.out; unfold maxLen; omega
  case c4 => have := HL.out; omega
  case c5 => simp; omega
  intro v' w2 hown' hgrow _
  obtain ⟨g', cap', rfl, hgb, hgl, _, _⟩ := ownsRow_some hown' (by omega)
  have hfg := Fr.of_grown hgrow
  have hne : ¬ some K = (Value.slice A1 (bs.length + (Lib.itoa n).length) cap1).ownBlock := by
    intro hv
    have := (ownsRow_block HO2.out hv).1
    omega
  have hsz2 : w1.heap.size + 1 ≤ w2.heap.size := by have := hgrow.size; simpa using this
  have hbx3 : w2.heap[K]? = some (.cells #[.slice A1 (bs.length + (Lib.itoa n).length) cap1] 40 (0, 0)) := by
    rw [hfg.block K (by simp; omega) hne]
    exact (Below.heap_alloc _ _ _ (by simp; omega)).trans HX2.out
  have hc3 : w2.cell? ⟨K, 0, none⟩ = some (.slice A1 (bs.length + (Lib.itoa n).length) cap1) := by rw [cellsAt hbx3]; rfl
  have hz3 : w2.frozen? ⟨K, 0, none⟩ = false := frozenAt hbx3 0
  have HF3 : Hid (InkFr K base w w2) := Lib.hid ((HF.out.alloc _).trans (hfg.mono (fun i _ hi => .inr (ownBlock_u8 (HO2.out.alloc _) hi))))
  have HB3 := Lib.hid hbx3
  have HO3 := Lib.hid hown'
  have hgK : g' ≠ K := by omega
  clear hbx3 hown' hfg hgrow hne
  go_wp2
  go_end0
  have hf4 : InkFr K base w (w2.setCell ⟨K, 0, none⟩ (.slice (some ⟨g', 0, none⟩) (bs.length + (Lib.itoa n).length + 1) cap')) := Fr.setCell HF3.out (fun _ => .inl rfl) _
  refine ⟨rfl, ⟨hKb, Nat.le_trans hbw hf4.size, HT.out.on (hf4.below (by omega) (by omega)), .slice (some ⟨g', 0, none⟩) (bs.length + (Lib.itoa n).length + 1) cap', ?_, ?_⟩, hf4⟩
  · have := HB3.out
    simp [World.setCell, Array.getElem?_modify, this]
  · have h2 := ownsRow_fr (may := fun i => i = K) HO3.out ((Fr.refl (fun i => i = K) w2).setCell (p := ⟨K, 0, none⟩) (fun _ => rfl) (.slice (some ⟨g', 0, none⟩) (bs.length + (Lib.itoa n).length + 1) cap')) (fun i hi => by cases hi; exact hgK)
    have e1 : (bs ++ inkInt n).length = bs.length + (Lib.itoa n).length + 1 := by simp [inkInt]; omega
    have e2 : Lib.byteCells (bs ++ inkInt n) = Lib.byteCells bs ++ (Lib.byteCells (Lib.itoa n) ++ [.int .u8 32]) := by simp [inkInt, Lib.byteCells]
    rw [e1, e2]; exact h2
theorem told_any0 (K base : Nat) (bs : List UInt8) (w : World) (h : InkAt w K base bs) (hl : bs.length < 100000000000) :
    Calls Tryz.prog 13 #[.pointer (some ⟨K, 0, none⟩)] w fun e w' => e = .returned (.string ⟨bs.toArray⟩) ∧ w = w' := by
  obtain ⟨hKb, hbw, htab, v, hbx, hown⟩ := h
  have hc : w.cell? ⟨K, 0, none⟩ = some v := by rw [cellsAt hbx]; rfl
  obtain ⟨A, cap, rfl, hnc, hcm, hAn⟩ := ownsRow_shape hown
  have hrun : (convert 38 9 (.slice A bs.length cap)).run Tryz.prog w = .ok (.string ⟨bs.toArray⟩) w := by
    rcases hown.2 with ⟨hv, h0⟩ | ⟨g, cap', cur, hv, hb, hh, h1, h2, h3, h4⟩
    · obtain rfl : bs = [] := List.eq_nil_of_length_eq_zero h0
      simp only [Value.slice.injEq] at hv
      obtain ⟨rfl, _, rfl⟩ := hv
      exact Lib.run_convert_nil_bytes w 38 9 5 0 Tryz.underlying38 Tryz.underlying5 Tryz.underlying9
    · simp only [Value.slice.injEq, true_and] at hv
      obtain ⟨rfl, rfl⟩ := hv
      have hby : Lib.Bytes w g 0 ⟨bs.toArray⟩ := by
        intro i hi
        rw [cellsAt hh, Nat.zero_add]
        have hi' : i < bs.length := by simpa [ByteArray.size] using hi
        have hg : (Lib.byteCells bs)[i]? = some (.int .u8 (bs[i].toNat : Int)) := by
          unfold Lib.byteCells; rw [List.getElem?_map, List.getElem?_eq_getElem hi']; rfl
        rw [← h4, List.getElem?_take] at hg
        split at hg
        · rw [show (⟨bs.toArray⟩ : ByteArray)[i] = bs[i] from rfl]; simpa using hg
        · cases hg
      have := Lib.run_convert_whole (P := Tryz.prog) w 38 5 9 Tryz.underlying38 Tryz.underlying5 Tryz.underlying9 g 0 ⟨bs.toArray⟩ hby cap
      have hsz : (⟨bs.toArray⟩ : ByteArray).size = bs.length := by simp [ByteArray.size]
      rw [hsz] at this
      exact this
  clear htab hbx hown hAn hcm
  go_enter Tryz.func13, Tryz.ntmps13
  go_wp2
  go_ret
  exact ⟨rfl, rfl⟩

end Go.Proofs.YtnpfdelklolchaaGreatDoor

/- Ink: lists of integers; package dynamometerlaw7's told. -/
namespace Go.Proofs.YtnpfdelklolchaaGreatDoor
open Go Go.RowKit Go.Proofs

def inkIs (zs : List Int) : List UInt8 := zs.flatMap inkInt
def inkInts (zs : List Int) : List UInt8 := inkInt zs.length ++ inkIs zs
theorem inkIs_take {zs : List Int} {i : Nat} {z : Int} (h : zs[i]? = some z) : inkIs (zs.take (i + 1)) = inkIs (zs.take i) ++ inkInt z := by
  unfold inkIs; rw [List.take_add_one, h]; simp
theorem inkIs_length (zs : List Int) (h : ∀ z ∈ zs, I64 z) : (inkIs zs).length ≤ 22 * zs.length := by
  induction zs with
  | nil => simp [inkIs]
  | cons z zs ih =>
    have h1 := inkInt_length z (h z (by simp)).1 (h z (by simp)).2
    have := ih (fun x hx => h x (by simp [hx]))
    simp only [inkIs, List.flatMap_cons, List.length_append, List.length_cons] at *
    omega

set_option maxHeartbeats 1000000 in
set_option maxRecDepth 100000 in
theorem inkInts_any (K base : Nat) (bs : List UInt8) (A : Option Addr) (c : Nat) (zs : List Int) (w : World) (h : InkAt w K base bs) (hl : bs.length < 10000000000) (hz : ∀ z ∈ zs, I64 z) (hn : zs.length ≤ 100000000) (hr : Rd w 0 K 1 A zs.length (ints zs)) :
    Calls Tryz.prog 12 #[.pointer (some ⟨K, 0, none⟩), .slice A zs.length c] w fun e w' => e = .returned (.tuple #[]) ∧ InkAt w' K base (bs ++ inkInts zs) ∧ InkFr K base w w' := by
  have l2 := inkInt_length (zs.length : Int) (by omega) (by omega)
  have hKw : K < w.heap.size := by have := h.1; have := h.2.1; omega
  have hbw := h.2.1
  have hKb := h.1
  have HI := Lib.hid (inkInt_any K base bs (zs.length : Int) w h (by omega) (by omega) (by omega))
  have HZ := Lib.hid hz
  have HR := Lib.hid hr
  clear h hz hr
  go_enter Tryz.func12, Tryz.ntmps12
  go_wp2_with fail
  refine HI.out.mono ?_
  rintro e w1 ⟨rfl, hi1, hf1⟩
  have HI1 := Lib.hid hi1
  have HF1 := Lib.hid hf1
  clear hi1 hf1
  go_wp2_with fail
  go_loopw [4] (fun i wr => ∃ k : Nat, k ≤ zs.length ∧ i = .int .i64 k ∧ InkAt wr K base (bs ++ inkInt zs.length ++ inkIs (zs.take k)) ∧ InkFr K base w wr) (fun i _ => zs.length - (intOf i).toNat)
  case atStart => exact ⟨0, Nat.zero_le _, rfl, by simpa [inkIs] using HI1.out, HF1.out⟩
  case round =>
    obtain ⟨k, hk, rfl, hik, hfk⟩ := hrel
    have hrk := HR.out.below (hfk.below (by omega) (by omega)) (Nat.le_refl _)
    have HIK := Lib.hid hik
    have HFK := Lib.hid hfk
    clear hik hfk
    by_cases hlt : k < zs.length
    · obtain ⟨b, o, u, rfl, hb, hu, qk⟩ := hrk.at1 hlt
      obtain ⟨z, hz, rfl⟩ := ints_get hu
      have HPT := Lib.hid (inkIs_take hz)
      have HZI := Lib.hid (HZ.out z (List.mem_of_getElem? hz))
      have hlk := inkIs_length (zs.take k) (fun x hx => HZ.out x (List.mem_of_mem_take hx))
      rw [List.length_take] at hlk
      have HI3 := Lib.hid (inkInt_any K base _ z wr HIK.out (by simp only [List.length_append]; omega) HZI.out.1 HZI.out.2)
      clear hz hu hrk
      go_wp2_with fail
      refine HI3.out.mono ?_
      rintro e w3 ⟨rfl, hi3, hf3⟩
      have HI4 := Lib.hid hi3
      have HF4 := Lib.hid (HFK.out.trans hf3)
      clear hi3 hf3
      go_wp2
      go_roundw
      case rel => exact ⟨k + 1, by omega, by go_num, by rw [HPT.out]; simpa [List.append_assoc] using HI4.out, HF4.out⟩
      case measure => simp [intOf]; omega
    · clear hrk
      go_wp2
      go_end0
      refine ⟨rfl, ?_, HFK.out⟩
      have := HIK.out
      rw [List.take_of_length_le (by omega)] at this
      simpa [inkInts, List.append_assoc] using this

end Go.Proofs.YtnpfdelklolchaaGreatDoor
