import Derived.Test.YthfloagpmmohkaaGreatDoorG37
/- Ink: texts of a list, with the fine frame. Printed by gen_duo0.py out of XInkRow and XInkRowC. -/
namespace Go.Proofs.YthfloagpmmohkaaGreatDoor
open Go Go.RowKit Go.Proofs

theorem inkText_len {L : List UInt8} (h : L.length ≤ 10000000) : (inkText L).length ≤ 22 + 10000000 := by
  have := inkInt_length (L.length : Int) (by omega) (by omega)
  unfold inkText
  rw [List.length_append]
  omega
/-- texts as cells -/
def strC (zs : List ByteArray) : List Value := zs.map Value.string
theorem strC_get {zs : List ByteArray} {i : Nat} {u : Value} (h : (strC zs)[i]? = some u) : ∃ z, zs[i]? = some z ∧ u = .string z := by
  unfold strC at h
  rw [List.getElem?_map] at h
  cases hz : zs[i]? with
  | none => rw [hz] at h; cases h
  | some z => rw [hz] at h; simp at h; exact ⟨z, rfl, h.symm⟩
def inkTs (zs : List ByteArray) : List UInt8 := zs.flatMap fun s => inkText s.data.toList
def inkTexts (zs : List ByteArray) : List UInt8 := inkInt zs.length ++ inkTs zs
theorem inkTs_take {zs : List ByteArray} {i : Nat} {z : ByteArray} (h : zs[i]? = some z) : inkTs (zs.take (i + 1)) = inkTs (zs.take i) ++ inkText z.data.toList := by
  unfold inkTs; rw [List.take_add_one, h]; simp
theorem inkTs_length (zs : List ByteArray) (h : ∀ z ∈ zs, z.size ≤ 10000000) : (inkTs zs).length ≤ 10000022 * zs.length := by
  induction zs with
  | nil => simp [inkTs]
  | cons z zs ih =>
    have h1 := inkText_len (L := z.data.toList) (by have := h z (by simp); rwa [Array.length_toList])
    have := ih (fun x hx => h x (by simp [hx]))
    simp only [inkTs, List.flatMap_cons, List.length_append, List.length_cons] at *
    omega
theorem ba_list (z : ByteArray) : (⟨z.data.toList.toArray⟩ : ByteArray) = z := by cases z; simp
set_option maxHeartbeats 1000000 in
set_option maxRecDepth 100000 in
theorem inkTexts_genC (K base : Nat) (bs : List UInt8) (A : Option Addr) (c : Nat) (zs : List ByteArray) (w : World) (h : InkAt w K base bs) (hl : bs.length < 10000000000000) (hz : ∀ z ∈ zs, z.size ≤ 10000000) (hn : zs.length ≤ 1000) (hr : ∀ w', InkFc K base w w' → Rd w' 0 w'.heap.size 1 A zs.length (strC zs)) :
    Calls Tryz.prog 12 #[.pointer (some ⟨K, 0, none⟩), .slice A zs.length c] w fun e w' => e = .returned (.tuple #[]) ∧ InkAt w' K base (bs ++ inkTexts zs) ∧ InkFc K base w w' := by
  have l2 := inkInt_length (zs.length : Int) (by omega) (by omega)
  have HI := Lib.hid (inkIntC K base bs (zs.length : Int) w h (by omega) (by omega) (by omega))
  have HZ := Lib.hid hz
  have HR := Lib.hid hr
  clear h hz hr
  go_enter Tryz.func12, Tryz.ntmps12
  go_wp2_with fail
  refine HI.out.mono ?_
  rintro e w1 ⟨rfl, hi1, hf1⟩
  have HI1 := Lib.hid hi1
  have HF1 := Lib.hid hf1
  clear hi1 hf1
  go_wp2_with fail
  go_loopw [4] (fun i wr => ∃ k : Nat, k ≤ zs.length ∧ i = .int .i64 k ∧ InkAt wr K base (bs ++ inkInt zs.length ++ inkTs (zs.take k)) ∧ InkFc K base w wr) (fun i _ => zs.length - (intOf i).toNat)
  case atStart => exact ⟨0, Nat.zero_le _, rfl, by simpa [inkTs] using HI1.out, HF1.out⟩
  case round =>
    obtain ⟨k, hk, rfl, hik, hfk⟩ := hrel
    have hrk := HR.out wr hfk
    have HIK := Lib.hid hik
    have HFK := Lib.hid hfk
    clear hik hfk
    by_cases hlt : k < zs.length
    · obtain ⟨b, o, u, rfl, hb, hu, qk⟩ := hrk.at1 hlt
      obtain ⟨z, hz, rfl⟩ := strC_get hu
      have HPT := Lib.hid (inkTs_take hz)
      have hzi := HZ.out z (List.mem_of_getElem? hz)
      have hlk := inkTs_length (zs.take k) (fun x hx => HZ.out x (List.mem_of_mem_take hx))
      rw [List.length_take] at hlk
      have HI3 := Lib.hid (inkTextC K base _ z.data.toList wr HIK.out (by simp only [List.length_append]; omega) (by rw [Array.length_toList]; have : z.data.size = z.size := rfl; omega))
      rw [ba_list] at HI3
      clear hz hu hrk
      go_wp2_with fail
      refine HI3.out.mono ?_
      rintro e w3 ⟨rfl, hi3, hf3⟩
      have HI4 := Lib.hid hi3
      have HF4 := Lib.hid (HFK.out.trans hf3)
      clear hi3 hf3
      go_wp2
      go_roundw
      case rel => exact ⟨k + 1, by omega, by go_num, by rw [HPT.out]; simpa [List.append_assoc] using HI4.out, HF4.out⟩
      case measure => simp [intOf]; omega
    · clear hrk
      go_wp2
      go_end0
      refine ⟨rfl, ?_, HFK.out⟩
      have := HIK.out
      rw [List.take_of_length_le (by omega)] at this
      simpa [inkTexts, List.append_assoc] using this
end Go.Proofs.YthfloagpmmohkaaGreatDoor

/- Two Inks that are written in turn (for seats without measure). Printed by gen_duo0.py out of XDuo. -/
namespace Go.Proofs.YthfloagpmmohkaaGreatDoor
open Go Go.RowKit Go.Proofs

/-- the block of a slice has cells of this type -/
def TyB (w : World) (t : TypeId) (A : Option Addr) (n : Nat) : Prop := 0 < n → ∃ b o c fz, A = some ⟨b, o, none⟩ ∧ w.heap[b]? = some (.cells c t fz)
theorem rd_keep {w w' : World} {may : Nat → Prop} {L B k n : Nat} {A : Option Addr} {xs : List Value} (h : Rd w L w.heap.size k A n xs) (hf : Fr may w w') (hm : ∀ b o, A = some ⟨b, o, none⟩ → 0 < n → ¬ may b) : Rd w' L w'.heap.size k A n xs := by
  refine ⟨h.1, fun hp => ?_⟩
  obtain ⟨b, o, e, hL, hb, hc⟩ := h.2 hp
  refine ⟨b, o, e, hL, Nat.lt_of_lt_of_le hb hf.size, fun j u hu => ?_⟩
  rw [← hc j u hu]
  exact World.cell?_of_block (hf.block b hb (hm b o e hp))
/-- two Inks, one behind the other -/
structure Duo (w : World) (K base : Nat) (b1 b2 : List UInt8) : Prop where
  fst : InkAt w K base b1
  snd : InkAt w (K + 1) base b2
  apart : ∀ i, InkOwn w K i → InkOwn w (K + 1) i → False
theorem InkOwn.back {w w' : World} {K i : Nat} (h : InkOwn w' K i) (e : w'.heap[K]? = w.heap[K]?) : InkOwn w K i := by
  obtain ⟨v, fz, h1, h2⟩ := h
  exact ⟨v, fz, by rw [← e]; exact h1, h2⟩
theorem InkAt.ownLt {w : World} {K base i : Nat} {bs : List UInt8} (h : InkAt w K base bs) (ho : InkOwn w K i) : base ≤ i ∧ i < w.heap.size := by
  obtain ⟨v, fz, h1, h2⟩ := ho
  obtain ⟨_, _, _, v', h3, h4⟩ := h
  rw [h1] at h3
  simp only [Option.some.injEq, Obj.cells.injEq] at h3
  have e : v = v' := by have := congrArg (fun (a : Array Value) => a[0]?) h3.1; simpa using this
  rw [e] at h2
  exact ownsRow_block h4 h2
theorem Duo.lt {w : World} {K base : Nat} {b1 b2 : List UInt8} (h : Duo w K base b1 b2) : K + 1 < base ∧ base ≤ w.heap.size := ⟨h.snd.1, h.snd.2.1⟩
theorem Duo.on {w w' : World} {K base : Nat} {b1 b2 : List UInt8} (h : Duo w K base b1 b2) (hb : Below w.heap.size w w') : Duo w' K base b1 b2 := by
  have hl := h.lt
  refine ⟨h.fst.fr (Fr.of_below hb) (fun i hi hm => by omega) (fun i _ hi hm => by omega), h.snd.fr (Fr.of_below hb) (fun i hi hm => by omega) (fun i _ hi hm => by omega), fun i h1 h2 => h.apart i (h1.back (hb.block _ (by omega))) (h2.back (hb.block _ (by omega)))⟩
/-- the first one is written -/
theorem Duo.one {w w' : World} {K base : Nat} {b1 b1' b2 : List UInt8} (h : Duo w K base b1 b2) (hi : InkAt w' K base b1') (hf : InkFc K base w w') : Duo w' K base b1' b2 := by
  have hl := h.lt
  have e2 : w'.heap[K + 1]? = w.heap[K + 1]? := hf.block (K + 1) (by omega) (by rintro (e | ⟨e, _⟩) <;> omega)
  refine ⟨hi, hf.other h.snd (.inr (by omega)) (by omega) h.apart (by omega) (fun W hW _ => (h.fst.2.2.1.on (hW.below (by omega) (fun i hi hm => by rcases hm with e | ⟨e, _⟩ <;> omega))).mono (by omega)), fun i h1 h2 => ?_⟩
  have h2' := h2.back e2
  exact h.apart i (hf.own i (h.snd.ownLt h2').2 h1) h2'
/-- the second one is written -/
theorem Duo.two {w w' : World} {K base : Nat} {b1 b2 b2' : List UInt8} (h : Duo w K base b1 b2) (hi : InkAt w' (K + 1) base b2') (hf : InkFc (K + 1) base w w') : Duo w' K base b1 b2' := by
  have hl := h.lt
  have e1 : w'.heap[K]? = w.heap[K]? := hf.block K (by omega) (by rintro (e | ⟨e, _⟩) <;> omega)
  refine ⟨hf.other h.fst (.inl (by omega)) (by omega) (fun i a b => h.apart i b a) (by omega) (fun W hW ht => ht.on (hW.below (by omega) (fun i hi hm => by rcases hm with e | ⟨e, _⟩ <;> omega))), hi, fun i h1 h2 => ?_⟩
  have h1' := h1.back e1
  exact h.apart i h1' (hf.own i (h.fst.ownLt h1').2 h2)
theorem Duo.blk {w : World} {K base : Nat} {b1 b2 : List UInt8} (h : Duo w K base b1 b2) : ∀ b, b = K ∨ b = K + 1 → ∃ A n c, w.heap[b]? = some (.cells #[.slice A n c] 29 (0, 0)) := by
  rintro b (rfl | rfl)
  · obtain ⟨_, _, _, v, h3, h4⟩ := h.fst
    obtain ⟨A, c, rfl, _⟩ := ownsRow_shape h4
    exact ⟨A, _, c, h3⟩
  · obtain ⟨_, _, _, v, h3, h4⟩ := h.snd
    obtain ⟨A, c, rfl, _⟩ := ownsRow_shape h4
    exact ⟨A, _, c, h3⟩
/-- what lies in a row of cells of another type is not moved by a write -/
theorem rd_fst {w w' : World} {K base k n : Nat} {b1 b2 : List UInt8} {t : TypeId} {A : Option Addr} {xs : List Value} (h : Duo w K base b1 b2) (hr : Rd w 0 w.heap.size k A n xs) (ht : TyB w t A n) (h1 : t ≠ 5) (h2 : t ≠ 29)
    (hf : InkFc K base w w') : Rd w' 0 w'.heap.size k A n xs ∧ TyB w' t A n := by
  have key : ∀ b o, A = some ⟨b, o, none⟩ → 0 < n → ∃ c fz, w.heap[b]? = some (.cells c t fz) ∧ ¬ (b = K ∨ (base ≤ b ∧ U8 w b ∧ InkOwn w K b)) := fun b o e hp => by
    obtain ⟨b', o', c, fz, e', hb⟩ := ht hp
    rw [e] at e'
    simp only [Option.some.injEq, Addr.mk.injEq, and_true] at e'
    obtain ⟨rfl, _⟩ := e'
    refine ⟨c, fz, hb, ?_⟩
    rintro (rfl | ⟨_, ⟨c', fz', hu⟩, _⟩)
    · obtain ⟨A', n', c', hk⟩ := h.blk b (.inl rfl)
      rw [hb] at hk
      simp only [Option.some.injEq, Obj.cells.injEq] at hk
      exact h2 hk.2.1
    · rw [hb] at hu
      simp only [Option.some.injEq, Obj.cells.injEq] at hu
      exact h1 hu.2.1
  refine ⟨rd_keep (B := 0) hr hf.toFr (fun b o e hp => by obtain ⟨_, _, _, hm⟩ := key b o e hp; exact hm), fun hp => ?_⟩
  obtain ⟨b, o, c, fz, e, hb⟩ := ht hp
  obtain ⟨_, _, _, hm⟩ := key b o e hp
  exact ⟨b, o, c, fz, e, (hf.block b (heap_lt hb) hm).trans hb⟩
theorem rd_snd {w w' : World} {K base k n : Nat} {b1 b2 : List UInt8} {t : TypeId} {A : Option Addr} {xs : List Value} (h : Duo w K base b1 b2) (hr : Rd w 0 w.heap.size k A n xs) (ht : TyB w t A n) (h1 : t ≠ 5) (h2 : t ≠ 29)
    (hf : InkFc (K + 1) base w w') : Rd w' 0 w'.heap.size k A n xs ∧ TyB w' t A n := by
  have key : ∀ b o, A = some ⟨b, o, none⟩ → 0 < n → ∃ c fz, w.heap[b]? = some (.cells c t fz) ∧ ¬ (b = K + 1 ∨ (base ≤ b ∧ U8 w b ∧ InkOwn w (K + 1) b)) := fun b o e hp => by
    obtain ⟨b', o', c, fz, e', hb⟩ := ht hp
    rw [e] at e'
    simp only [Option.some.injEq, Addr.mk.injEq, and_true] at e'
    obtain ⟨rfl, _⟩ := e'
    refine ⟨c, fz, hb, ?_⟩
    rintro (rfl | ⟨_, ⟨c', fz', hu⟩, _⟩)
    · obtain ⟨A', n', c', hk⟩ := h.blk (K + 1) (.inr rfl)
      rw [hb] at hk
      simp only [Option.some.injEq, Obj.cells.injEq] at hk
      exact h2 hk.2.1
    · rw [hb] at hu
      simp only [Option.some.injEq, Obj.cells.injEq] at hu
      exact h1 hu.2.1
  refine ⟨rd_keep (B := 0) hr hf.toFr (fun b o e hp => by obtain ⟨_, _, _, hm⟩ := key b o e hp; exact hm), fun hp => ?_⟩
  obtain ⟨b, o, c, fz, e, hb⟩ := ht hp
  obtain ⟨_, _, _, hm⟩ := key b o e hp
  exact ⟨b, o, c, fz, e, (hf.block b (heap_lt hb) hm).trans hb⟩
theorem TyB.on {w w' : World} {t : TypeId} {A : Option Addr} {n : Nat} (h : TyB w t A n) (hb : Below w.heap.size w w') : TyB w' t A n := fun hp => by
  obtain ⟨b, o, c, fz, e, hh⟩ := h hp
  exact ⟨b, o, c, fz, e, (hb.block b (heap_lt hh)).trans hh⟩
/-- the beginning: both Inks empty -/
theorem Duo.start {w : World} {K : Nat} (htab : Tab K w) (h1 : w.heap[K]? = some (.cells #[.slice none 0 0] 29 (0, 0))) (h2 : w.heap[K + 1]? = some (.cells #[.slice none 0 0] 29 (0, 0))) {base : Nat} (hb : K + 1 < base) (hs : base ≤ w.heap.size) : Duo w K base [] [] := by
  refine ⟨⟨by omega, hs, htab, _, h1, ⟨by simp [Lib.byteCells], .inl ⟨rfl, rfl⟩⟩⟩, ⟨hb, hs, htab.mono (by omega), _, h2, ⟨by simp [Lib.byteCells], .inl ⟨rfl, rfl⟩⟩⟩, fun i ho _ => ?_⟩
  obtain ⟨v, fz, h3, h4⟩ := ho
  rw [h1] at h3
  simp only [Option.some.injEq, Obj.cells.injEq] at h3
  have e : (Value.slice none 0 0) = v := by have := congrArg (fun (a : Array Value) => a[0]?) h3.1; simpa using this
  rw [← e] at h4
  cases h4
/-- all below the Inks stays -/
theorem InkFc.belowN {K base B : Nat} {w w' w0 : World} (h : InkFc K base w w') (hb : Below B w0 w) (hB : B ≤ w.heap.size) (hK : B ≤ K) (hKb : K < base) : Below B w0 w' :=
  hb.trans (h.toFr.below hB (fun i hi hm => by rcases hm with e | ⟨e, _⟩ <;> omega))
end Go.Proofs.YthfloagpmmohkaaGreatDoor
