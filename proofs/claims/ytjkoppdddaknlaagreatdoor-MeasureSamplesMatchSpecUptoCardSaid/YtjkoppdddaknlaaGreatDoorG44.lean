import Derived.Test.YtjkoppdddaknlaaGreatDoorG42
import Derived.Test.YtjkoppdddaknlaaGreatDoorInkRowC
import Derived.Test.YtjkoppdddaknlaaGreatDoorG18
import Derived.Test.YtjkoppdddaknlaaGreatDoorRGrpM
import Derived.Test.YtjkoppdddaknlaaGreatDoorOf
/- Two Inks that are written in turn. -/
namespace Go.Proofs.YtjkoppdddaknlaaGreatDoor
open Go Go.RowKit Go.Proofs

/-- two Inks, one behind the other -/
structure Duo (w : World) (K base : Nat) (b1 b2 : List UInt8) : Prop where
  fst : InkAt w K base b1
  snd : InkAt w (K + 1) base b2
  apart : ∀ i, InkOwn w K i → InkOwn w (K + 1) i → False
theorem InkOwn.back {w w' : World} {K i : Nat} (h : InkOwn w' K i) (e : w'.heap[K]? = w.heap[K]?) : InkOwn w K i := by
  obtain ⟨v, fz, h1, h2⟩ := h
  exact ⟨v, fz, by rw [← e]; exact h1, h2⟩
theorem InkAt.ownLt {w : World} {K base i : Nat} {bs : List UInt8} (h : InkAt w K base bs) (ho : InkOwn w K i) : base ≤ i ∧ i < w.heap.size := by
  obtain ⟨v, fz, h1, h2⟩ := ho
  obtain ⟨_, _, _, v', h3, h4⟩ := h
  rw [h1] at h3
  simp only [Option.some.injEq, Obj.cells.injEq] at h3
  have e : v = v' := by have := congrArg (fun (a : Array Value) => a[0]?) h3.1; simpa using this
  rw [e] at h2
  exact ownsRow_block h4 h2
theorem Duo.lt {w : World} {K base : Nat} {b1 b2 : List UInt8} (h : Duo w K base b1 b2) : K + 1 < base ∧ base ≤ w.heap.size := ⟨h.snd.1, h.snd.2.1⟩
theorem Duo.on {w w' : World} {K base : Nat} {b1 b2 : List UInt8} (h : Duo w K base b1 b2) (hb : Below w.heap.size w w') : Duo w' K base b1 b2 := by
  have hl := h.lt
  refine ⟨h.fst.fr (Fr.of_below hb) (fun i hi hm => by omega) (fun i _ hi hm => by omega), h.snd.fr (Fr.of_below hb) (fun i hi hm => by omega) (fun i _ hi hm => by omega), fun i h1 h2 => h.apart i (h1.back (hb.block _ (by omega))) (h2.back (hb.block _ (by omega)))⟩
/-- the first one is written -/
theorem Duo.one {w w' : World} {K base : Nat} {b1 b1' b2 : List UInt8} (h : Duo w K base b1 b2) (hi : InkAt w' K base b1') (hf : InkFc K base w w') : Duo w' K base b1' b2 := by
  have hl := h.lt
  have e2 : w'.heap[K + 1]? = w.heap[K + 1]? := hf.block (K + 1) (by omega) (by rintro (e | ⟨e, _⟩) <;> omega)
  refine ⟨hi, hf.other h.snd (.inr (by omega)) (by omega) h.apart (by omega) (fun W hW _ => (h.fst.2.2.1.on (hW.below (by omega) (fun i hi hm => by rcases hm with e | ⟨e, _⟩ <;> omega))).mono (by omega)), fun i h1 h2 => ?_⟩
  have h2' := h2.back e2
  exact h.apart i (hf.own i (h.snd.ownLt h2').2 h1) h2'
/-- the second one is written -/
theorem Duo.two {w w' : World} {K base : Nat} {b1 b2 b2' : List UInt8} (h : Duo w K base b1 b2) (hi : InkAt w' (K + 1) base b2') (hf : InkFc (K + 1) base w w') : Duo w' K base b1 b2' := by
  have hl := h.lt
  have e1 : w'.heap[K]? = w.heap[K]? := hf.block K (by omega) (by rintro (e | ⟨e, _⟩) <;> omega)
  refine ⟨hf.other h.fst (.inl (by omega)) (by omega) (fun i a b => h.apart i b a) (by omega) (fun W hW ht => ht.on (hW.below (by omega) (fun i hi hm => by rcases hm with e | ⟨e, _⟩ <;> omega))), hi, fun i h1 h2 => ?_⟩
  have h1' := h1.back e1
  exact h.apart i h1' (hf.own i (h.fst.ownLt h1').2 h2)
theorem Duo.blk {w : World} {K base : Nat} {b1 b2 : List UInt8} (h : Duo w K base b1 b2) : ∀ b, b = K ∨ b = K + 1 → ∃ A n c, w.heap[b]? = some (.cells #[.slice A n c] 27 (0, 0)) := by
  rintro b (rfl | rfl)
  · obtain ⟨_, _, _, v, h3, h4⟩ := h.fst
    obtain ⟨A, c, rfl, _⟩ := ownsRow_shape h4
    exact ⟨A, _, c, h3⟩
  · obtain ⟨_, _, _, v, h3, h4⟩ := h.snd
    obtain ⟨A, c, rfl, _⟩ := ownsRow_shape h4
    exact ⟨A, _, c, h3⟩
/-- what lies in a row of cells of another type is not moved by a write -/
theorem rd_fst {w w' : World} {K base k n : Nat} {b1 b2 : List UInt8} {t : TypeId} {A : Option Addr} {xs : List Value} (h : Duo w K base b1 b2) (hr : Rd w 0 w.heap.size k A n xs) (ht : TyB w t A n) (h1 : t ≠ 5) (h2 : t ≠ 27)
    (hf : InkFc K base w w') : Rd w' 0 w'.heap.size k A n xs ∧ TyB w' t A n := by
  have key : ∀ b o, A = some ⟨b, o, none⟩ → 0 < n → ∃ c fz, w.heap[b]? = some (.cells c t fz) ∧ ¬ (b = K ∨ (base ≤ b ∧ U8 w b ∧ InkOwn w K b)) := fun b o e hp => by
    obtain ⟨b', o', c, fz, e', hb⟩ := ht hp
    rw [e] at e'
    simp only [Option.some.injEq, Addr.mk.injEq, and_true] at e'
    obtain ⟨rfl, _⟩ := e'
    refine ⟨c, fz, hb, ?_⟩
    rintro (rfl | ⟨_, ⟨c', fz', hu⟩, _⟩)
    · obtain ⟨A', n', c', hk⟩ := h.blk b (.inl rfl)
      rw [hb] at hk
      simp only [Option.some.injEq, Obj.cells.injEq] at hk
      exact h2 hk.2.1
    · rw [hb] at hu
      simp only [Option.some.injEq, Obj.cells.injEq] at hu
      exact h1 hu.2.1
  refine ⟨rd_keep (B := 0) hr hf.toFr (fun b o e hp => by obtain ⟨_, _, _, hm⟩ := key b o e hp; exact hm), fun hp => ?_⟩
  obtain ⟨b, o, c, fz, e, hb⟩ := ht hp
  obtain ⟨_, _, _, hm⟩ := key b o e hp
  exact ⟨b, o, c, fz, e, (hf.block b (heap_lt hb) hm).trans hb⟩
theorem rd_snd {w w' : World} {K base k n : Nat} {b1 b2 : List UInt8} {t : TypeId} {A : Option Addr} {xs : List Value} (h : Duo w K base b1 b2) (hr : Rd w 0 w.heap.size k A n xs) (ht : TyB w t A n) (h1 : t ≠ 5) (h2 : t ≠ 27)
    (hf : InkFc (K + 1) base w w') : Rd w' 0 w'.heap.size k A n xs ∧ TyB w' t A n := by
  have key : ∀ b o, A = some ⟨b, o, none⟩ → 0 < n → ∃ c fz, w.heap[b]? = some (.cells c t fz) ∧ ¬ (b = K + 1 ∨ (base ≤ b ∧ U8 w b ∧ InkOwn w (K + 1) b)) := fun b o e hp => by
    obtain ⟨b', o', c, fz, e', hb⟩ := ht hp
    rw [e] at e'
    simp only [Option.some.injEq, Addr.mk.injEq, and_true] at e'
    obtain ⟨rfl, _⟩ := e'
    refine ⟨c, fz, hb, ?_⟩
    rintro (rfl | ⟨_, ⟨c', fz', hu⟩, _⟩)
    · obtain ⟨A', n', c', hk⟩ := h.blk (K + 1) (.inr rfl)
      rw [hb] at hk
      simp only [Option.some.injEq, Obj.cells.injEq] at hk
      exact h2 hk.2.1
    · rw [hb] at hu
      simp only [Option.some.injEq, Obj.cells.injEq] at hu
      exact h1 hu.2.1
  refine ⟨rd_keep (B := 0) hr hf.toFr (fun b o e hp => by obtain ⟨_, _, _, hm⟩ := key b o e hp; exact hm), fun hp => ?_⟩
  obtain ⟨b, o, c, fz, e, hb⟩ := ht hp
  obtain ⟨_, _, _, hm⟩ := key b o e hp
  exact ⟨b, o, c, fz, e, (hf.block b (heap_lt hb) hm).trans hb⟩
theorem TyB.on {w w' : World} {t : TypeId} {A : Option Addr} {n : Nat} (h : TyB w t A n) (hb : Below w.heap.size w w') : TyB w' t A n := fun hp => by
  obtain ⟨b, o, c, fz, e, hh⟩ := h hp
  exact ⟨b, o, c, fz, e, (hb.block b (heap_lt hh)).trans hh⟩
/-- what reads as something else than a slice does not lie in an Ink -/
theorem rd_off {w w' : World} {may : Nat → Prop} {k n : Nat} {A : Option Addr} {xs : List Value} (hr : Rd w 0 w.heap.size k A n xs) {P : Nat → Prop} (hP : ∀ b, P b → ∃ A n c, w.heap[b]? = some (.cells #[.slice A n c] 27 (0, 0)))
    (hx : 0 < n → ∃ j u, xs[j]? = some u ∧ (0 < j ∨ ∀ A n c, u ≠ .slice A n c)) (hf : Fr may w w') (hm : ∀ b, b < w.heap.size → may b → P b) : Rd w' 0 w'.heap.size k A n xs := by
  refine rd_keep (B := 0) hr hf (fun b o e hp hmb => ?_)
  obtain ⟨b', o', e', _, hb, hc⟩ := hr.2 hp
  rw [e] at e'
  simp only [Option.some.injEq, Addr.mk.injEq, and_true] at e'
  obtain ⟨rfl, rfl⟩ := e'
  obtain ⟨A', n', c', hk⟩ := hP b (hm b hb hmb)
  obtain ⟨j, u, hj, hu⟩ := hx hp
  have h1 := hc j u hj
  rw [cellsAt hk] at h1
  rcases Nat.eq_zero_or_pos (o + j) with h0 | h0
  · rw [h0] at h1
    simp at h1
    rcases hu with h2 | h2
    · omega
    · exact h2 _ _ _ h1.symm
  · rw [show (#[Value.slice A' n' c'] : Array Value)[o + j]? = none from Array.getElem?_eq_none (by simp; omega)] at h1
    cases h1
theorem GrR.off {w w' : World} {may : Nat → Prop} {A : Option Addr} {l : List RowX} (h : GrR w A l) {P : Nat → Prop} (hP : ∀ b, P b → ∃ A n c, w.heap[b]? = some (.cells #[.slice A n c] 27 (0, 0)))
    (hf : Fr may w w') (hm : ∀ b, b < w.heap.size → may b → P b) : GrR w' A l := by
  refine ⟨rd_off h.1 hP (fun hp => ?_) hf hm, fun r hr => ⟨rd_off (h.2 r hr).1 hP (fun hp => ?_) hf hm, rd_off (h.2 r hr).2 hP (fun hp => ?_) hf hm⟩⟩
  · obtain ⟨r, hr⟩ : ∃ r, l[0]? = some r := ⟨_, List.getElem?_eq_getElem hp⟩
    refine ⟨1, .int .i64 8, ?_, .inl (by omega)⟩
    have := flat_get (fun r : RowX => [Value.slice r.vA r.vals.length r.vc, .int .i64 8, .slice r.hA r.cs.length r.hc, .int .i64 r.f]) 4 (fun _ => rfl) l 0 1 (by omega) r hr
    unfold rowCells
    simpa using this
  · obtain ⟨z, hz⟩ : ∃ z, r.vals[0]? = some z := ⟨_, List.getElem?_eq_getElem hp⟩
    exact ⟨0, .string z, by unfold strC; rw [List.getElem?_map, hz]; rfl, .inr (fun _ _ _ e => by cases e)⟩
  · obtain ⟨q, hq⟩ : ∃ q, r.cs[0]? = some q := ⟨_, List.getElem?_eq_getElem hp⟩
    refine ⟨0, .int .i64 q.1, ?_, .inr (fun _ _ _ e => by cases e)⟩
    have := flat_get (fun q : Int × Int => [Value.int .i64 q.1, .int .i64 q.2]) 2 (fun _ => rfl) r.cs 0 0 (by omega) q hq
    unfold cells2
    simpa using this
/-- the beginning: both Inks empty -/
theorem Duo.start {w : World} {K : Nat} (htab : Tab K w) (h1 : w.heap[K]? = some (.cells #[.slice none 0 0] 27 (0, 0))) (h2 : w.heap[K + 1]? = some (.cells #[.slice none 0 0] 27 (0, 0))) {base : Nat} (hb : K + 1 < base) (hs : base ≤ w.heap.size) : Duo w K base [] [] := by
  refine ⟨⟨by omega, hs, htab, _, h1, ⟨by simp [Lib.byteCells], .inl ⟨rfl, rfl⟩⟩⟩, ⟨hb, hs, htab.mono (by omega), _, h2, ⟨by simp [Lib.byteCells], .inl ⟨rfl, rfl⟩⟩⟩, fun i ho _ => ?_⟩
  obtain ⟨v, fz, h3, h4⟩ := ho
  rw [h1] at h3
  simp only [Option.some.injEq, Obj.cells.injEq] at h3
  have e : (Value.slice none 0 0) = v := by have := congrArg (fun (a : Array Value) => a[0]?) h3.1; simpa using this
  rw [← e] at h4
  cases h4
end Go.Proofs.YtjkoppdddaknlaaGreatDoor

/- counts(): a small histogram is made. -/
namespace Go.Proofs.YtjkoppdddaknlaaGreatDoor
open Go Go.RowKit Go.Proofs Go.Maps

theorem small_hist (cs : List (Int × Int)) (h : IsHist (cntB 2 [5, 1, 4]) cs) : cs = [(1, 1), (4, 2)] := by
  refine h.uniq ⟨by decide, fun x n => ?_⟩
  have e : cntB 2 [5, 1, 4] x = (if x = 4 then 1 else 0) + (if x = 1 then 1 else 0) + (if x = 4 then 1 else 0) := by
    unfold cntB
    have b5 : bkt 2 5 = 4 := by decide +kernel
    have b1 : bkt 2 1 = 1 := by decide +kernel
    have b4 : bkt 2 4 = 4 := by decide +kernel
    have c4 : ((4 : Int) == x) = decide (x = 4) := by by_cases h : x = 4 <;> simp [h]; omega
    have c1 : ((1 : Int) == x) = decide (x = 1) := by by_cases h : x = 1 <;> simp [h]; omega
    simp only [List.countP_cons, List.countP_nil, b5, b1, b4, c4, c1, decide_eq_true_eq]
    split <;> split <;> omega
  rw [e]
  simp only [List.mem_cons, Prod.mk.injEq, List.not_mem_nil, or_false]
  by_cases h4 : x = 4
  · subst h4; simp; omega
  · by_cases h1 : x = 1
    · subst h1; simp; omega
    · simp [h4, h1]; omega

theorem rd_new (w : World) (t : TypeId) (l : List Value) (n k : Nat) (hl : l.length = n * k) : Rd (w.alloc (.cells l.toArray t)) 0 (w.alloc (.cells l.toArray t)).heap.size k (some ⟨w.heap.size, 0, none⟩) n l := by
  refine ⟨hl, fun _ => ⟨w.heap.size, 0, rfl, Nat.zero_le _, by simp, fun j u hu => ?_⟩⟩
  rw [cellsAt (alloc_at w _ _ rfl), Nat.zero_add]
  simpa using hu

set_option maxHeartbeats 1000000 in
theorem counts_any (w : World) : Calls Tryz.prog 15 #[] w fun e w' => e = .returned (.bool true) ∧ Below w.heap.size w w' := by
  have hO := Of_any 2 (some ⟨w.heap.size, 0, none⟩) 3 3 [5, 1, 4] (w.alloc (.cells #[.int .i64 5, .int .i64 1, .int .i64 4] 3)) (rd_new w 3 [.int .i64 5, .int .i64 1, .int .i64 4] 3 1 rfl) (by omega)
  have hcode : codeV 2 3 [5, 1, 4] = 0 := by decide +kernel
  rw [hcode] at hO
  have HO := Lib.hid hO
  clear hO hcode
  go_enter Tryz.func15, Tryz.ntmps15
  go_wp2_with fail
  refine HO.out.mono ?_
  rintro e w' ⟨v, rfl, h1, _, hbw⟩
  obtain ⟨cs, hh, ⟨A, c, rfl, hlc, hcm, hA, hrd⟩, hcl⟩ := h1 trivial
  obtain rfl := small_hist cs hh
  obtain ⟨b, o, rfl, hlb, hbb, hcell⟩ := hrd.2 (by simp)
  have c0 := hcell 2 (.int .i64 4) rfl
  have c1 := hcell 3 (.int .i64 2) rfl
  have HBW := Lib.hid hbw
  have hsz := hbw.size
  simp only [World.size_alloc] at hsz
  clear h1 hh hrd hA hcell hbw
  go_wp2
  go_ret
  refine ⟨by simp, ?_⟩
  exact (((Below.refl _ w).alloc (Nat.le_refl _) _).trans (HBW.out.mono (by simp))).alloc (by omega) _

end Go.Proofs.YtjkoppdddaknlaaGreatDoor
