/- Ink: what is written is a function of what is to be written. -/
import Derived.Test.YtgmbgclhljobaaaDoorChk
import Derived.Laws.BytesString
import Derived.Lib.ItoaLen
import Derived.Lib.SlBytesRow
import Derived.Lib.BufferRead
namespace Go.Proofs.YtgmbgclhljobaaaDoor
open Go Go.RowKit Go.Proofs Go.Maps

/-- the table that AppendInt reads, kept by whatever leaves the blocks below B alone -/
def Tab (B : Nat) (w : World) : Prop := Lib.TabBelow Tryd.prog B w "internal/strconv.uint64pow10" .u64 Lib.pow10Tab
theorem Tab.on {B : Nat} {w w' : World} (h : Tab B w) (hb : Below B w w') : Tab B w' := Lib.TabBelow.on h hb
theorem Tab.mono {B B' : Nat} {w : World} (h : Tab B w) (hB : B ≤ B') : Tab B' w := fun w' hb => h w' (hb.mono hB)

/-- what Int writes -/
def inkInt (n : Int) : List UInt8 := Lib.itoa n ++ [32]
theorem inkInt_length (n : Int) (h0 : -9223372036854775808 ≤ n) (h1 : n ≤ 9223372036854775807) : (inkInt n).length ≤ 22 := by
  have := Lib.itoa_length_le n h0 h1
  simp [inkInt]; omega

/-- block K is an Ink that has written bs -/
def InkAt (w : World) (K base : Nat) (bs : List UInt8) : Prop :=
  K < base ∧ base ≤ w.heap.size ∧ Tab K w ∧ ∃ v, w.heap[K]? = some (.cells #[v] 66 (0, 0)) ∧ w.ownsRow base 5 1 v bs.length (Lib.byteCells bs)
theorem InkAt.fr {may : Nat → Prop} {w w' : World} {K base : Nat} {bs : List UInt8} (h : InkAt w K base bs) (hf : Fr may w w') (hK : ∀ i, i ≤ K → ¬ may i) (hB : ∀ i, base ≤ i → i < w.heap.size → ¬ may i) : InkAt w' K base bs := by
  obtain ⟨h1, h2, h3, v, h4, h5⟩ := h
  exact ⟨h1, Nat.le_trans h2 hf.size, h3.on (hf.below (by omega) (fun i hi => hK i (by omega))), v, (hf.block K (by omega) (hK K (Nat.le_refl _))).trans h4, ownsRow_fr h5 hf (fun i hi => by have := ownsRow_block h5 hi; exact hB i this.1 this.2)⟩

/-- block i is a row of bytes -/
def U8 (w : World) (i : Nat) : Prop := ∃ c fz, w.heap[i]? = some (.cells c 5 fz)
/-- what an Ink's methods leave alone: all but the Ink itself and rows of bytes from 'base' on -/
def InkFr (K base : Nat) (w w' : World) : Prop := Fr (fun i => i = K ∨ (base ≤ i ∧ U8 w i)) w w'
theorem InkFr.refl (K base : Nat) (w : World) : InkFr K base w w := Fr.refl _ _
theorem InkFr.trans {K base : Nat} {w w1 w2 : World} (h1 : InkFr K base w w1) (h2 : InkFr K base w1 w2) : InkFr K base w w2 :=
  ⟨h2.os.trans h1.os, h2.tape.trans h1.tape, h2.output.trans h1.output, Nat.le_trans h1.size h2.size, fun i hi hm => by
    have e1 := h1.block i hi hm
    refine (h2.block i (Nat.lt_of_lt_of_le hi h1.size) ?_).trans e1
    rintro (rfl | ⟨hb, c, fz, hc⟩)
    · exact hm (.inl rfl)
    · exact hm (.inr ⟨hb, c, fz, by rw [← e1]; exact hc⟩)⟩
theorem InkFr.below {K base : Nat} {w w' : World} (h : InkFr K base w w') (hK : K ≤ w.heap.size) (hKb : K ≤ base) : Below K w w' := Fr.below h hK (fun i hi => by omega)
/-- a block that is no row of bytes stays -/
theorem InkFr.keep {K base : Nat} {w w' : World} (h : InkFr K base w w') {i : Nat} {c : Array Value} {t : TypeId} {fz : Nat × Nat} (hi : w.heap[i]? = some (.cells c t fz)) (ht : t ≠ 5) (hK : i ≠ K) : w'.heap[i]? = some (.cells c t fz) := by
  refine (h.block i (heap_lt hi) ?_).trans hi
  rintro (e | ⟨_, c', fz', hc⟩)
  · exact hK e
  · rw [hi] at hc
    simp only [Option.some.injEq, Obj.cells.injEq] at hc
    exact ht hc.2.1
theorem InkFr.alloc {K base : Nat} {w w' : World} (h : InkFr K base w w') (o : Obj) : InkFr K base w (w'.alloc o) := Fr.alloc h o
theorem ownBlock_u8 {w : World} {base n : Nat} {v : Value} {xs : List Value} (h : w.ownsRow base 5 1 v n xs) {i : Nat} (hi : some i = v.ownBlock) : base ≤ i ∧ U8 w i := by
  rcases h.2 with ⟨rfl, _⟩ | ⟨g, cap, cur, rfl, hb, hh, hr⟩
  · cases hi
  · cases hi; exact ⟨hb, cur, (0, 0), hh⟩

theorem Tryd.info8 : (Tryd.prog.info? 5).map (fun i => (i.zero, i.size, i.bytes)) = some (some (.int .u8 0), 1, 1) := by kernel_rfl

set_option maxHeartbeats 1000000 in
set_option maxRecDepth 100000 in
theorem inkInt_any (K base : Nat) (bs : List UInt8) (n : Int) (w : World) (h : InkAt w K base bs) (hl : bs.length < 100000000000) (h0 : -9223372036854775808 ≤ n) (h1 : n ≤ 9223372036854775807) :
    Calls Tryd.prog 82 #[.pointer (some ⟨K, 0, none⟩), .int .i64 n] w fun e w' => e = .returned (.tuple #[]) ∧ InkAt w' K base (bs ++ inkInt n) ∧ InkFr K base w w' := by
  obtain ⟨hKb, hbw, htab, v, hbx, hown⟩ := h
  obtain ⟨i0, hi, hz0, hz1, hz2⟩ := info_parts Tryd.info8
  have hc : w.cell? ⟨K, 0, none⟩ = some v := by rw [cellsAt hbx]; rfl
  have HA := Lib.hid (Tryd.strconv_AppendInt_10 base bs.length n h0 h1 v (Lib.byteCells bs) w hown hbw (by omega) (htab.mono (by omega)))
  have HT := Lib.hid htab
  have HB := Lib.hid hbx
  have hit := Lib.itoa_length_le n h0 h1
  clear hown htab hbx h0 h1
  go_enter Tryd.func82, Tryd.ntmps82
  go_wp2_with fail
  refine HA.out.mono ?_
  rintro e w1 ⟨v1, rfl, ho1, hb1, hok⟩
  have hfA : InkFr K base w w1 := ⟨hb1.os, hb1.tape, hb1.output, hb1.size, fun i hi hm => by
    by_cases hib : i < base
    · exact hb1.block i hib
    · have hu : ¬ U8 w i := fun hu => hm (.inr ⟨by omega, hu⟩)
      obtain ⟨o, ho⟩ : ∃ o, w.heap[i]? = some o := ⟨w.heap[i], Array.getElem?_eq_getElem hi⟩
      rw [ho]
      exact hok i o ho (by simp) (fun c fz e => hu ⟨c, fz, by rw [ho, e]⟩)⟩
  clear hok
  clear HA
  have hbx1 : w1.heap[K]? = some (.cells #[v] 66 (0, 0)) := (hb1.block K hKb).trans HB.out
  have hc1 : w1.cell? ⟨K, 0, none⟩ = some v := by rw [cellsAt hbx1]; rfl
  have hz1' : w1.frozen? ⟨K, 0, none⟩ = false := frozenAt hbx1 0
  obtain ⟨A1, cap1, rfl, hnc1, hcm1, hAn⟩ := ownsRow_shape ho1
  clear hAn
  have hs1 := hb1.size
  have hbx2 : (w1.setCell ⟨K, 0, none⟩ (.slice A1 (bs.length + (Lib.itoa n).length) cap1)).heap[K]? = some (.cells #[.slice A1 (bs.length + (Lib.itoa n).length) cap1] 66 (0, 0)) := by
    simp [World.setCell, Array.getElem?_modify, hbx1]
  have hf2 : Fr (fun i => i = K) w1 (w1.setCell ⟨K, 0, none⟩ (.slice A1 (bs.length + (Lib.itoa n).length) cap1)) := (Fr.refl (fun i => i = K) w1).setCell (fun _ => rfl) _
  have ho2 := ownsRow_fr ho1 hf2 (fun i hi => by have := (ownsRow_block ho1 hi).1; omega)
  have hf12 : InkFr K base w (w1.setCell ⟨K, 0, none⟩ (.slice A1 (bs.length + (Lib.itoa n).length) cap1)) := hfA.trans (hf2.mono (fun i _ hi => .inl hi))
  have HO2 := Lib.hid ho2
  have HX2 := Lib.hid hbx2
  have HF := Lib.hid hf12
  clear ho1 ho2 hbx1 hbx2 hf2 hf12 hb1 hfA
  have HM1 := Lib.hid hcm1
  have HL := Lib.hid hl
  clear hcm1 hl
  go_wp2_with (at_builtin; refine wpList_append_own _ rfl (.tmp 17) (.tmp 18) 42 rfl base 5 i0 _ 1 1 Tryd.underlying42 hi hz0 hz1 hz2 rfl (by decide) (.slice A1 (bs.length + (Lib.itoa n).length) cap1) (bs.length + (Lib.itoa n).length) (Lib.byteCells bs ++ Lib.byteCells (Lib.itoa n)) rfl (HO2.out.alloc _) ⟨w1.heap.size, 0, none⟩ 1 1 [.int .u8 32] rfl rfl ?c0 (by simp [Value.oneCell']) ?c3 ?c4 ?c5 ?_)
  case c0 => have := cell_one_new (w1.setCell ⟨K, 0, none⟩ (.slice A1 (bs.length + (Lib.itoa n).length) cap1)) (.int .u8 32) 5; simpa using this
  case c3 => have := HL.out; unfold maxLen; omega
  case c4 => have := HL.out; omega
  case c5 => simp; omega
  intro v' w2 hown' hgrow _
  obtain ⟨g', cap', rfl, hgb, hgl, _, _⟩ := ownsRow_some hown' (by omega)
  have hfg := Fr.of_grown hgrow
  have hne : ¬ some K = (Value.slice A1 (bs.length + (Lib.itoa n).length) cap1).ownBlock := by
    intro hv
    have := (ownsRow_block HO2.out hv).1
    omega
  have hsz2 : w1.heap.size + 1 ≤ w2.heap.size := by have := hgrow.size; simpa using this
  have hbx3 : w2.heap[K]? = some (.cells #[.slice A1 (bs.length + (Lib.itoa n).length) cap1] 66 (0, 0)) := by
    rw [hfg.block K (by simp; omega) hne]
    exact (Below.heap_alloc _ _ _ (by simp; omega)).trans HX2.out
  have hc3 : w2.cell? ⟨K, 0, none⟩ = some (.slice A1 (bs.length + (Lib.itoa n).length) cap1) := by rw [cellsAt hbx3]; rfl
  have hz3 : w2.frozen? ⟨K, 0, none⟩ = false := frozenAt hbx3 0
  have HF3 : Hid (InkFr K base w w2) := Lib.hid ((HF.out.alloc _).trans (hfg.mono (fun i _ hi => .inr (ownBlock_u8 (HO2.out.alloc _) hi))))
  have HB3 := Lib.hid hbx3
  have HO3 := Lib.hid hown'
  have hgK : g' ≠ K := by omega
  clear hbx3 hown' hfg hgrow hne
  go_wp2
  go_end0
  have hf4 : InkFr K base w (w2.setCell ⟨K, 0, none⟩ (.slice (some ⟨g', 0, none⟩) (bs.length + (Lib.itoa n).length + 1) cap')) := Fr.setCell HF3.out (fun _ => .inl rfl) _
  refine ⟨rfl, ⟨hKb, Nat.le_trans hbw hf4.size, HT.out.on (hf4.below (by omega) (by omega)), .slice (some ⟨g', 0, none⟩) (bs.length + (Lib.itoa n).length + 1) cap', ?_, ?_⟩, hf4⟩
  · have := HB3.out
    simp [World.setCell, Array.getElem?_modify, this]
  · have h2 := ownsRow_fr (may := fun i => i = K) HO3.out ((Fr.refl (fun i => i = K) w2).setCell (p := ⟨K, 0, none⟩) (fun _ => rfl) (.slice (some ⟨g', 0, none⟩) (bs.length + (Lib.itoa n).length + 1) cap')) (fun i hi => by cases hi; exact hgK)
    have e1 : (bs ++ inkInt n).length = bs.length + (Lib.itoa n).length + 1 := by simp [inkInt]; omega
    have e2 : Lib.byteCells (bs ++ inkInt n) = Lib.byteCells bs ++ (Lib.byteCells (Lib.itoa n) ++ [.int .u8 32]) := by simp [inkInt, Lib.byteCells]
    rw [e1, e2]; exact h2
/-- what Histogram writes -/
def inkPairs (cs : List (Int × Int)) : List UInt8 := cs.flatMap fun c => inkInt c.1 ++ inkInt c.2
def inkHist (b : Int) (cs : List (Int × Int)) : List UInt8 := inkInt b ++ inkInt cs.length ++ inkPairs cs
theorem inkPairs_take (cs : List (Int × Int)) (i : Nat) (x n : Int) (h : cs[i]? = some (x, n)) : inkPairs (cs.take (i + 1)) = inkPairs (cs.take i) ++ inkInt x ++ inkInt n := by
  rw [List.take_add_one, h]; simp [inkPairs]
def I64 (x : Int) : Prop := -9223372036854775808 ≤ x ∧ x ≤ 9223372036854775807
theorem inkPairs_length (cs : List (Int × Int)) (h : ∀ c ∈ cs, I64 c.1 ∧ I64 c.2) : (inkPairs cs).length ≤ 44 * cs.length := by
  induction cs with
  | nil => simp [inkPairs]
  | cons c cs ih =>
    have h1 := ih (fun x hx => h x (by simp [hx]))
    have h2 := h c (by simp)
    have l1 := inkInt_length c.1 h2.1.1 h2.1.2
    have l2 := inkInt_length c.2 h2.2.1 h2.2.2
    simp only [inkPairs, List.flatMap_cons, List.length_append, List.length_cons] at *
    omega

theorem inkErrno_any (K base : Nat) (bs : List UInt8) (n : Int) (w : World) (h : InkAt w K base bs) (hl : bs.length < 100000000000) (hn : I64 n) :
    Calls Tryd.prog 44 #[.pointer (some ⟨K, 0, none⟩), .int .i64 n] w fun e w' => e = .returned (.tuple #[]) ∧ InkAt w' K base (bs ++ inkInt n) ∧ InkFr K base w w' := by
  have HI := Lib.hid (inkInt_any K base bs n w h hl hn.1 hn.2)
  clear h hl hn
  go_enter Tryd.func44, Tryd.ntmps44
  go_wp2_with fail
  refine HI.out.mono ?_
  rintro e w' ⟨rfl, hi, hf⟩
  have H1 := Lib.hid hi
  have H2 := Lib.hid hf
  clear hi hf HI
  go_wp2
  go_end0
  exact ⟨rfl, H1.out, H2.out⟩

theorem told_any0 (K base : Nat) (bs : List UInt8) (w : World) (h : InkAt w K base bs) (hl : bs.length < 100000000000) :
    Calls Tryd.prog 45 #[.pointer (some ⟨K, 0, none⟩)] w fun e w' => e = .returned (.string ⟨bs.toArray⟩) ∧ w = w' := by
  obtain ⟨hKb, hbw, htab, v, hbx, hown⟩ := h
  have hc : w.cell? ⟨K, 0, none⟩ = some v := by rw [cellsAt hbx]; rfl
  obtain ⟨A, cap, rfl, hnc, hcm, hAn⟩ := ownsRow_shape hown
  have hrun : (convert 42 9 (.slice A bs.length cap)).run Tryd.prog w = .ok (.string ⟨bs.toArray⟩) w := by
    rcases hown.2 with ⟨hv, h0⟩ | ⟨g, cap', cur, hv, hb, hh, h1, h2, h3, h4⟩
    · obtain rfl : bs = [] := List.eq_nil_of_length_eq_zero h0
      simp only [Value.slice.injEq] at hv
      obtain ⟨rfl, _, rfl⟩ := hv
      exact Lib.run_convert_nil_bytes w 42 9 5 0 Tryd.underlying42 Tryd.underlying5 Tryd.underlying9
    · simp only [Value.slice.injEq, true_and] at hv
      obtain ⟨rfl, rfl⟩ := hv
      have hby : Lib.Bytes w g 0 ⟨bs.toArray⟩ := by
        intro i hi
        rw [cellsAt hh, Nat.zero_add]
        have hi' : i < bs.length := by simpa [ByteArray.size] using hi
        have hg : (Lib.byteCells bs)[i]? = some (.int .u8 (bs[i].toNat : Int)) := by
          unfold Lib.byteCells; rw [List.getElem?_map, List.getElem?_eq_getElem hi']; rfl
        rw [← h4, List.getElem?_take] at hg
        split at hg
        · rw [show (⟨bs.toArray⟩ : ByteArray)[i] = bs[i] from rfl]; simpa using hg
        · cases hg
      have := Lib.run_convert_whole (P := Tryd.prog) w 42 5 9 Tryd.underlying42 Tryd.underlying5 Tryd.underlying9 g 0 ⟨bs.toArray⟩ hby cap
      have hsz : (⟨bs.toArray⟩ : ByteArray).size = bs.length := by simp [ByteArray.size]
      rw [hsz] at this
      exact this
  clear htab hbx hown hAn hcm
  go_enter Tryd.func45, Tryd.ntmps45
  go_wp2
  go_ret
  exact ⟨rfl, rfl⟩

set_option maxHeartbeats 1000000 in
set_option maxRecDepth 100000 in
theorem inkHist_any (K base : Nat) (bs : List UInt8) (b : Int) (A : Option Addr) (c : Nat) (cs : List (Int × Int)) (w : World) (h : InkAt w K base bs) (hl : bs.length < 10000000000) (hb : I64 b) (hcs : ∀ c ∈ cs, I64 c.1 ∧ I64 c.2) (hn : cs.length ≤ 100000000)
    (hr : Rd w 0 K 2 A cs.length (cells2 cs)) :
    Calls Tryd.prog 43 #[.pointer (some ⟨K, 0, none⟩), .agg #[.int .i64 b, .slice A cs.length c]] w fun e w' => e = .returned (.tuple #[]) ∧ InkAt w' K base (bs ++ inkHist b cs) ∧ InkFr K base w w' := by
  have hlen := inkPairs_length cs hcs
  have l1 := inkInt_length b hb.1 hb.2
  have l2 := inkInt_length (cs.length : Int) (by omega) (by omega)
  have hin : InkAt (w.alloc (.cells #[.int .i64 b, .slice A cs.length c] 24)) K base bs := h.fr (may := fun _ => False) ((Fr.refl _ w).alloc _) (fun _ _ h => h) (fun _ _ _ h => h)
  have hKw : K < w.heap.size := by have := h.1; have := h.2.1; omega
  have hbw := h.2.1
  have hKb := h.1
  have HI := Lib.hid hin
  have HB := Lib.hid hb
  have HC := Lib.hid hcs
  have HR := Lib.hid (hr.alloc (by omega) (.cells #[.int .i64 b, .slice A cs.length c] 24))
  have HL := Lib.hid hl
  have HN := Lib.hid hn
  have hbx0 : (w.alloc (.cells #[.int .i64 b, .slice A cs.length c] 24)).heap[w.heap.size]? = some (.cells #[.int .i64 b, .slice A cs.length c] 24 (0, 0)) := alloc_at _ _ _ rfl
  have HBX := Lib.hid hbx0
  have HLEN := Lib.hid hlen
  clear h hin hb hcs hr hl hlen hbx0
  go_enter Tryd.func43, Tryd.ntmps43
  go_wp2_with fail
  obtain ⟨W0, hW0⟩ : ∃ W0, W0 = w.alloc (.cells #[.int .i64 b, .slice A cs.length c] 24) := ⟨_, rfl⟩
  rw [← hW0] at HI HR HBX ⊢
  have hs0 : W0.heap.size = w.heap.size + 1 := by rw [hW0]; simp
  have HFR0 : Hid (InkFr K base w W0) := Lib.hid (by rw [hW0]; exact (InkFr.refl K base w).alloc _)
  clear hW0
  refine (inkInt_any K base bs b _ HI.out (by have := HL.out; omega) HB.out.1 HB.out.2).mono ?_
  rintro e w1 ⟨rfl, hi1, hf1⟩
  have hbx1 := hf1.keep HBX.out (by decide) (by omega)
  have e1 : w1.cell? ⟨w.heap.size, 1, none⟩ = some (.slice A cs.length c) := by rw [cellsAt hbx1]; rfl
  have HI1 := Lib.hid hi1
  have HF1 := Lib.hid hf1
  have HS0 := Lib.hid hs0
  clear hi1 hf1 hbx1 hs0
  go_wp2_with fail
  refine (inkInt_any K base (bs ++ inkInt b) (cs.length : Int) _ HI1.out (by have := HL.out; simp; omega) (by omega) (by have := HN.out; omega)).mono ?_
  rintro e w2 ⟨rfl, hi2, hf2⟩
  have hf02 := HF1.out.trans hf2
  have HI2 := Lib.hid hi2
  have HF2 := Lib.hid hf02
  clear hi2 hf2 hf02 e1
  go_wp2
  go_loopw [4] (fun i wr => ∃ k : Nat, k ≤ cs.length ∧ i = .int .i64 k ∧ InkAt wr K base (bs ++ inkInt b ++ inkInt cs.length ++ inkPairs (cs.take k)) ∧ InkFr K base W0 wr) (fun i _ => cs.length - (intOf i).toNat)
  case atStart => exact ⟨0, Nat.zero_le _, rfl, by simpa [inkPairs] using HI2.out, HF2.out⟩
  case round =>
    obtain ⟨k, hk, rfl, hik, hfk⟩ := hrel
    have hbxk := hfk.keep HBX.out (by decide) (by omega)
    have e1 : wr.cell? ⟨w.heap.size, 1, none⟩ = some (.slice A cs.length c) := by rw [cellsAt hbxk]; rfl
    have hbel := hfk.below (by have := HS0.out; omega) (by omega)
    have hrk := HR.out.below hbel (Nat.le_refl _)
    have HIK := Lib.hid hik
    have HFK := Lib.hid hfk
    clear hik hfk hbxk
    by_cases hlt : k < cs.length
    · obtain ⟨bk, o, x, m, rfl, _, hbk, hx, c0, c1⟩ := hrk.at2 hlt
      have hpt := inkPairs_take cs k x m hx
      have hxm := HC.out (x, m) (List.mem_of_getElem? hx)
      have hlk := inkPairs_length (cs.take k) (fun c hc => HC.out c (List.mem_of_mem_take hc))
      rw [List.length_take] at hlk
      have hlx := inkInt_length x hxm.1.1 hxm.1.2
      have HPT := Lib.hid hpt
      have HXM := Lib.hid hxm
      have HLK := Lib.hid hlk
      have HRK := Lib.hid hrk
      clear hx hpt hxm hlk hrk hbel
      go_wp2_with fail
      refine (inkInt_any K base _ x _ HIK.out (by have := HL.out; have := HLK.out; have := HN.out; simp only [List.length_append]; omega) HXM.out.1.1 HXM.out.1.2).mono ?_
      rintro e w3 ⟨rfl, hi3, hf3⟩
      have hf03 := HFK.out.trans hf3
      have hbx3 := hf03.keep HBX.out (by decide) (by omega)
      have e3 : w3.cell? ⟨w.heap.size, 1, none⟩ = some (.slice (some ⟨bk, o, none⟩) cs.length c) := by rw [cellsAt hbx3]; rfl
      have d1 : w3.cell? ⟨bk, o + k * 2 + 1, none⟩ = some (.int .i64 m) := by
        have hb3 : Below K wr w3 := hf3.below (by have := HFK.out.size; have := HS0.out; omega) (by omega)
        exact (hb3.cell (p := ⟨bk, o + k * 2 + 1, none⟩) hbk).trans c1
      have HI3 := Lib.hid hi3
      have HF3 := Lib.hid hf03
      clear hi3 hf3 hf03 hbx3 e1 c0 c1
      go_wp2_with fail
      refine (inkInt_any K base _ m _ HI3.out (by have := HL.out; have := HLK.out; have := HN.out; simp only [List.length_append]; omega) HXM.out.2.1 HXM.out.2.2).mono ?_
      rintro e w4 ⟨rfl, hi4, hf4⟩
      have HI4 := Lib.hid hi4
      have HF4 := Lib.hid (HF3.out.trans hf4)
      clear hi4 hf4 e3 d1
      go_wp2
      go_roundw
      case rel => exact ⟨k + 1, by omega, by go_num, by rw [HPT.out]; simpa [List.append_assoc] using HI4.out, HF4.out⟩
      case measure => simp [intOf]; omega
    · clear hrk hbel
      go_wp2
      go_end0
      refine ⟨rfl, ?_, HFR0.out.trans HFK.out⟩
      have := HIK.out
      rw [List.take_of_length_le (by omega)] at this
      simpa [inkHist, List.append_assoc] using this

/-- a value that is a histogram, its counts below block B -/
def HistB (w : World) (B : Nat) (v : Value) (b : Int) (cs : List (Int × Int)) : Prop :=
  ∃ A c, v = .agg #[.int .i64 b, .slice A cs.length c] ∧ Rd w 0 B 2 A cs.length (cells2 cs)

set_option maxHeartbeats 1000000 in
set_option maxRecDepth 100000 in
theorem told_any (v : Value) (b e : Int) (cs : List (Int × Int)) (w : World) (ht : Tab w.heap.size w) (hv : HistB w w.heap.size v b cs) (hb : I64 b) (he : I64 e) (hcs : ∀ c ∈ cs, I64 c.1 ∧ I64 c.2) (hn : cs.length ≤ 100000000) :
    Calls Tryd.prog 13 #[v, .int .i64 e] w fun r w' => r = .returned (.string ⟨(inkHist b cs ++ inkInt e).toArray⟩) ∧ Below w.heap.size w w' := by
  obtain ⟨A, c, rfl, hr⟩ := hv
  have hlen := inkPairs_length cs hcs
  have l1 := inkInt_length b hb.1 hb.2
  have l2 := inkInt_length (cs.length : Int) (by omega) (by omega)
  have l3 := inkInt_length e he.1 he.2
  have hlt : (inkHist b cs).length ≤ 44 * cs.length + 44 := by simp only [inkHist, List.length_append]; omega
  obtain ⟨W0, hW0⟩ : ∃ W0, W0 = (w.alloc (.cells #[.int .i64 b, .slice A cs.length c] 24)).alloc (.cells #[.slice none 0 0] 66) := ⟨_, rfl⟩
  have hs0 : W0.heap.size = w.heap.size + 1 + 1 := by rw [hW0]; simp
  have hbw0 : Below w.heap.size w W0 := by rw [hW0]; exact ((Below.refl _ w).alloc (Nat.le_refl _) _).alloc (by simp) _
  have hi0 : InkAt W0 (w.heap.size + 1) (w.heap.size + 1 + 1) [] := by
    refine ⟨by omega, by omega, (ht.on hbw0).mono (by omega), .slice none 0 0, ?_, ⟨by simp [Lib.byteCells], .inl ⟨rfl, rfl⟩⟩⟩
    rw [hW0]; exact alloc_at _ _ _ (by simp)
  have hr0 : Rd W0 0 (w.heap.size + 1) 2 A cs.length (cells2 cs) := (hr.below hbw0 (Nat.le_refl _)).more (Nat.le_refl _) (by omega)
  have H1 := Lib.hid (inkHist_any (w.heap.size + 1) (w.heap.size + 1 + 1) [] b A c cs W0 hi0 (by simp) hb hcs hn hr0)
  have HE := Lib.hid he
  have HB0 := Lib.hid hbw0
  have HS0 := Lib.hid hs0
  have hn' := hn
  clear hlen hi0 hr0 hr ht hbw0 hcs hb he l1 l2 l3 hs0
  have HLT := Lib.hid hlt
  clear hlt
  go_enter Tryd.func13, Tryd.ntmps13
  go_wp2_with fail
  rw [← hW0]
  clear hW0
  refine H1.out.mono ?_
  rintro r w1 ⟨rfl, hi1, hf1⟩
  rw [List.nil_append] at hi1
  have HI1 := Lib.hid hi1
  have HF1 := Lib.hid hf1
  clear hi1 hf1 H1
  go_wp2_with fail
  refine (inkErrno_any _ _ _ e _ HI1.out (by have := HLT.out; omega) HE.out).mono ?_
  rintro r w2 ⟨rfl, hi2, hf2⟩
  have HI2 := Lib.hid hi2
  have HF2 := Lib.hid (HF1.out.trans hf2)
  clear hi2 hf2
  go_wp2_with fail
  refine (told_any0 _ _ _ _ HI2.out (by have := HLT.out; have := inkInt_length e HE.out.1 HE.out.2; simp only [List.length_append]; omega)).mono ?_
  rintro r w3 ⟨rfl, rfl⟩
  go_wp2
  go_ret
  exact ⟨rfl, HB0.out.trans ((HF2.out.below (by have := HS0.out; omega) (by omega)).mono (by omega))⟩
end Go.Proofs.YtgmbgclhljobaaaDoor
