/- wire's small, alike: a text with small letters. -/
import Derived.Test.YthfloagpmmohkaaGreatDoorG3
import Derived.Test.YthfloagpmmohkaaGreatDoorCore
import Derived.Laws.IdiomStrings
import Derived.Laws.BytesString
import Derived.Lib.UnsafeStr
namespace Go.Proofs.YthfloagpmmohkaaGreatDoor
open Go Go.RowKit Go.Proofs

/-- block g begins with these bytes, and they may be written -/
def ByB (w : World) (g : Nat) (l : List UInt8) : Prop := ∃ C fz, w.heap[g]? = some (.cells C 5 fz) ∧ l.length ≤ fz.1 ∧ ∀ (j : Nat) (b : UInt8), l[j]? = some b → C[j]? = some (Value.int .u8 (b.toNat : Int))
theorem ByB.cell {w : World} {g j : Nat} {l : List UInt8} {b : UInt8} (h : ByB w g l) (hj : l[j]? = some b) : w.cell? ⟨g, j, none⟩ = some (.int .u8 (b.toNat : Int)) := by
  obtain ⟨C, fz, h1, _, h3⟩ := h
  unfold World.cell?
  rw [h1]
  simpa using h3 j b hj
theorem ByB.frz {w : World} {g j : Nat} {l : List UInt8} (h : ByB w g l) (hj : j < l.length) : w.frozen? ⟨g, j, none⟩ = false := by
  obtain ⟨C, fz, h1, h2, _⟩ := h
  unfold World.frozen?
  rw [h1]
  simp
  omega
theorem ByB.set {w : World} {g j : Nat} {l : List UInt8} (h : ByB w g l) (b : UInt8) : ByB (w.setCell ⟨g, j, none⟩ (.int .u8 (b.toNat : Int))) g (l.set j b) := by
  obtain ⟨C, fz, h1, h2, h3⟩ := h
  refine ⟨C.setIfInBounds j (.int .u8 (b.toNat : Int)), fz, ?_, by simpa using h2, fun i x hx => ?_⟩
  · simp [World.setCell, Array.getElem?_modify, h1]
  · rw [List.getElem?_set] at hx
    rw [Array.getElem?_setIfInBounds]
    split at hx
    · rename_i e
      subst e
      split at hx
      · rename_i hlt
        have hx := Option.some.inj hx
        subst hx
        obtain ⟨y, hy⟩ : ∃ y, l[j]? = some y := ⟨_, List.getElem?_eq_getElem hlt⟩
        have := (Array.getElem?_eq_some_iff.1 (h3 j y hy)).1
        simp [this]
      · cases hx
    · rename_i e
      rw [if_neg e]
      exact h3 i x hx
theorem ByB.fr {w w' : World} {g : Nat} {l : List UInt8} (h : ByB w g l) (e : w'.heap[g]? = w.heap[g]?) : ByB w' g l := by
  obtain ⟨C, fz, h1, h2⟩ := h
  exact ⟨C, fz, e.trans h1, h2⟩
theorem by_new (w : World) (l : List UInt8) (cap : Nat) : ByB (w.drew.alloc (.cells (bytesRow ⟨l.toArray⟩ cap) 5 ((bytesRow ⟨l.toArray⟩ cap).size, (bytesRow ⟨l.toArray⟩ cap).size + 1))) w.heap.size l := by
  have hb : ∀ (j : Nat) (b : UInt8), l[j]? = some b → (bytesRow ⟨l.toArray⟩ cap)[j]? = some (Value.int .u8 (b.toNat : Int)) := fun j b hj => by
    obtain ⟨h1, h2⟩ := List.getElem?_eq_some_iff.1 hj
    have := bytesRow_at ⟨l.toArray⟩ cap j (by simpa using h1)
    rw [this]
    simp [h2]
  refine ⟨_, _, alloc_at _ _ _ rfl, ?_, hb⟩
  rcases Nat.eq_zero_or_pos l.length with h0 | h0
  · omega
  · obtain ⟨b, hb2⟩ : ∃ b, l[l.length - 1]? = some b := ⟨_, List.getElem?_eq_getElem (by omega)⟩
    have := (Array.getElem?_eq_some_iff.1 (hb _ _ hb2)).1
    simp only
    omega
theorem ByB.conv {w : World} {g c : Nat} {l : List UInt8} (h : ByB w g l) : (convert 27 9 (.slice (some ⟨g, 0, none⟩) l.length c)).run Tryz.prog w = .ok (tx l) w :=
  run_convert_bytes_back w 27 9 5 ⟨g, 0, none⟩ c l Tryz.underlying27 Tryz.underlying5 Tryz.underlying9 (fun j hj => by
    have := h.cell (List.getElem?_eq_getElem hj)
    rw [show (⟨g, 0, none⟩ : Addr).add j = ⟨g, j, none⟩ by unfold Addr.add; split <;> simp_all]
    exact this)
/-- the letter in small -/
def lowB (b : UInt8) : UInt8 := if Cr.isCap b then b + 32 else b
set_option maxHeartbeats 2000000 in
set_option maxRecDepth 100000 in
theorem small_any (l : List UInt8) (w : World) (hl : l.length ≤ 140737488355328) : Calls Tryz.prog 38 #[tx l] w fun e w' => e = .returned (tx (Cr.sml l)) ∧ Below w.heap.size w w' := by
  have hcv := run_bytes_of_string (P := Tryz.prog) w 9 27 5 ⟨l.toArray⟩ Tryz.underlying9 Tryz.underlying27 Tryz.underlying5
  have hsz : (⟨l.toArray⟩ : ByteArray).size = l.length := rfl
  rw [hsz] at hcv
  obtain ⟨cap, hcap⟩ : ∃ cap, cap = grownCap w l.length 0 5 := ⟨_, rfl⟩
  rw [← hcap] at hcv
  have hcn : l.length ≤ cap := by rw [hcap]; have := grownCap_ge w l.length 0 5; omega
  obtain ⟨w1, hw1⟩ : ∃ w1, w1 = w.drew.alloc (.cells (bytesRow ⟨l.toArray⟩ cap) 5 ((bytesRow ⟨l.toArray⟩ cap).size, (bytesRow ⟨l.toArray⟩ cap).size + 1)) := ⟨_, rfl⟩
  rw [← hw1] at hcv
  have HB := Lib.hid (show ByB w1 w.heap.size l by rw [hw1]; exact by_new w l cap)
  have HF := Lib.hid (show Below w.heap.size w w1 by rw [hw1]; exact (Below.refl _ w).drew.alloc (Nat.le_refl _) _)
  have HS := Lib.hid (show w.heap.size < w1.heap.size by rw [hw1]; simp)
  clear hw1 hcap hsz
  go_enter Tryz.func38, Tryz.ntmps38
  go_wp2
  go_loopw [4, 5, 10] (fun _ _ i wr => ∃ k : Nat, k ≤ l.length ∧ i = .int .i64 k ∧ ByB wr w.heap.size ((l.take k).map lowB ++ l.drop k) ∧ Below w.heap.size w wr) (fun _ _ i _ => l.length - (intOf i).toNat)
  case atStart => exact ⟨0, Nat.zero_le _, rfl, by simpa using HB.out, HF.out⟩
  case round =>
    obtain ⟨k, hk, rfl, hbk, hfk⟩ := hrel
    have HBK := Lib.hid hbk
    have HFK := Lib.hid hfk
    clear hbk hfk
    by_cases hlt : k < l.length
    · obtain ⟨b, hb⟩ : ∃ b, l[k]? = some b := ⟨_, List.getElem?_eq_getElem hlt⟩
      have hlk : ((l.take k).map lowB).length = k := by simp; omega
      have hLk : ((l.take k).map lowB ++ l.drop k)[k]? = some b := by
        rw [List.getElem?_append_right (by omega), hlk, Nat.sub_self]
        simpa using hb
      have hLl : ((l.take k).map lowB ++ l.drop k).length = l.length := by simp; omega
      have kc := HBK.out.cell hLk
      have kz := HBK.out.frz (j := k) (by omega)
      have hnx : ((l.take k).map lowB ++ l.drop k).set k (lowB b) = (l.take (k + 1)).map lowB ++ l.drop (k + 1) := by
        apply List.ext_getElem?
        intro i
        rw [List.getElem?_set]
        by_cases hik : k = i
        · subst hik
          rw [if_pos rfl, if_pos (by omega)]
          rw [List.getElem?_append_left (by simp; omega)]
          simp [hb]
        · rw [if_neg hik]
          rcases Nat.lt_or_ge i k with h1 | h1
          · rw [List.getElem?_append_left (by rw [hlk]; exact h1), List.getElem?_append_left (by simp; omega)]
            simp only [List.getElem?_map]
            rw [List.getElem?_take_of_lt h1, List.getElem?_take_of_lt (by omega)]
          · rw [List.getElem?_append_right (by rw [hlk]; exact h1), List.getElem?_append_right (by simp; omega), hlk]
            simp only [List.getElem?_drop, List.length_map, List.length_take]
            congr 1
            omega
      have HNX := Lib.hid hnx
      have HLK := Lib.hid hLk
      have HC := Lib.hid (isCapital_any b wr)
      have HLB := Lib.hid (show lowB b = if Cr.isCap b then b + 32 else b from rfl)
      have hcap : Cr.isCap b = true → 65 ≤ b.toNat ∧ b.toNat ≤ 90 := fun h => by simpa [Cr.isCap] using h
      have HSK := Lib.hid (show w.heap.size < wr.heap.size by have := HFK.out.size; have := HS.out; exact heap_lt (HBK.out.choose_spec.choose_spec.1))
      clear hb hlk hLk hLl hnx
      cases hc : Cr.isCap b with
      | true =>
        rw [hc] at HC HLB
        obtain ⟨h65, h90⟩ := hcap hc
        have ev : (b.toNat : Int) + 97 - 65 = ((b + 32).toNat : Int) := by
          have : (b + 32).toNat = (b.toNat + 32) % 256 := UInt8.toNat_add b 32
          rw [this]
          omega
        have EV := Lib.hid ev
        clear ev hcap hc
        go_wp2_with fail
        (with_reducible refine HC.out.mono ?_)
        rintro e w2 ⟨rfl, rfl⟩
        go_wp2
        go_roundw
        case rel =>
          refine ⟨k + 1, by omega, by go_num, ?_, ?_⟩
          · have h1 := HBK.out.set (j := k) (b + 32)
            have h2 : lowB b = b + 32 := by rw [HLB.out]; rfl
            rw [← HNX.out, h2]
            rw [← EV.out] at h1
            exact h1
          · exact HFK.out.setCell (p := ⟨w.heap.size, k, none⟩) (Nat.le_refl _) _
        case measure => simp [intOf]; omega
      | false =>
        rw [hc] at HC HLB
        clear hcap hc
        go_wp2_with fail
        (with_reducible refine HC.out.mono ?_)
        rintro e w2 ⟨rfl, rfl⟩
        go_wp2
        go_roundw
        case rel =>
          refine ⟨k + 1, by omega, by go_num, ?_, HFK.out⟩
          have h2 : lowB b = b := by rw [HLB.out]; rfl
          rw [← HNX.out, h2]
          have h3 : ((l.take k).map lowB ++ l.drop k).set k b = (l.take k).map lowB ++ l.drop k := by
            apply List.ext_getElem?
            intro i
            rw [List.getElem?_set]
            split
            · rename_i e
              subst e
              rw [HLK.out, if_pos (List.getElem?_eq_some_iff.1 HLK.out).1]
            · rfl
          rw [h3]
          exact HBK.out
        case measure => simp [intOf]; omega
    · have hke : k = l.length := by omega
      have hbk := HBK.out
      rw [hke, List.take_length, List.drop_length, List.append_nil] at hbk
      have hcv2 := ByB.conv (c := cap) hbk
      rw [List.length_map] at hcv2
      clear hbk
      go_wp2
      go_ret
      exact ⟨rfl, HFK.out⟩
end Go.Proofs.YthfloagpmmohkaaGreatDoor
