/- Reading bytes: the source's byte. -/
import Derived.Test.YtgmbgclhljobaaaDoorBytes
namespace Go.Proofs.YtgmbgclhljobaaaDoor
open Go Go.RowKit Go.Proofs Go.Maps

/-- reading a number: the error, the number, the rest; i bytes of it are read, acc is theirs -/
def rdN : Nat → Nat → List UInt8 → Int × Nat × List UInt8
  | _, _, [] => (16, 0, [])
  | i, acc, x :: r => if x.toNat < 128 then (if x.toNat = 0 ∧ 0 < i then (2, 0, r) else (0, acc + x.toNat * 128 ^ i, r)) else if i = 8 then (2, 0, r) else rdN (i + 1) (acc + (x.toNat - 128) * 128 ^ i) r
/-- block K is a source with these bytes, and this error -/
def SrcAt (w : World) (B K : Nat) (l : List UInt8) (no : Int) : Prop :=
  ∃ A c, w.heap[K]? = some (.cells #[.slice A l.length c, .int .i64 no] 84 (0, 0)) ∧ Rd w 0 B 1 A l.length (Lib.byteCells l) ∧ l.length ≤ c ∧ c ≤ maxLen ∧ B ≤ K
theorem byteCells_get {l : List UInt8} {i : Nat} {u : Value} (h : (Lib.byteCells l)[i]? = some u) : ∃ x, l[i]? = some x ∧ u = .int .u8 (x.toNat : Int) := by
  unfold Lib.byteCells at h; rw [List.getElem?_map] at h
  cases hz : l[i]? with
  | none => rw [hz] at h; cases h
  | some z => rw [hz] at h; exact ⟨z, rfl, by simpa using h.symm⟩
theorem SrcAt.fr {may : Nat → Prop} {w w' : World} {B K : Nat} {l : List UInt8} {no : Int} (h : SrcAt w B K l no) (hf : Fr may w w') (hK : ¬ may K) (hB : ∀ i, i < B → ¬ may i) : SrcAt w' B K l no := by
  obtain ⟨A, c, h1, h2, h3, h4, h5⟩ := h
  have hlt := heap_lt h1
  exact ⟨A, c, (hf.block K hlt hK).trans h1, h2.fr hf (by omega) (fun i _ hi => hB i hi), h3, h4, h5⟩
theorem SrcAt.lt {w : World} {B K : Nat} {l : List UInt8} {no : Int} (h : SrcAt w B K l no) : K < w.heap.size := by
  obtain ⟨A, c, h1, _⟩ := h; exact heap_lt h1
/-- the error turned -/
theorem SrcAt.set1 {w : World} {B K : Nat} {l : List UInt8} {no : Int} (h : SrcAt w B K l no) (e : Int) : SrcAt (w.setCell ⟨K, 1, none⟩ (.int .i64 e)) B K l e := by
  obtain ⟨A, c, h1, h2, h3, h4, h5⟩ := h
  refine ⟨A, c, ?_, ?_, h3, h4, h5⟩
  · simp [World.setCell, Array.getElem?_modify, h1]
  · exact h2.keep fun p _ hp => World.cell?_setCell_other w _ _ _ (fun e => by have := congrArg Addr.block e; simp only at this; omega)
theorem fr_cell (w : World) (K j : Nat) (u : Value) : Fr (fun i => i = K) w (w.setCell ⟨K, j, none⟩ u) := Fr.setCell (may := fun i => i = K) (Fr.refl _ w) (p := ⟨K, j, none⟩) (fun _ => rfl) u
theorem byte_err (B K : Nat) (l : List UInt8) (no : Int) (w : World) (h : SrcAt w B K l no) (hno : no ≠ 0) :
    Calls Tryd.prog 67 #[.pointer (some ⟨K, 0, none⟩)] w fun e w' => e = .returned (.int .u8 0) ∧ w = w' := by
  obtain ⟨A, c, h1, h2, h3, h4, h5⟩ := h
  have c0 : w.cell? ⟨K, 0, none⟩ = some (.slice A l.length c) := by rw [cellsAt h1]; rfl
  have c1 : w.cell? ⟨K, 1, none⟩ = some (.int .i64 no) := by rw [cellsAt h1]; rfl
  have n1 : (no == 0) = false := by simpa using hno
  have n2 : (no != 0) = true := by simpa using hno
  clear h1 h2 hno
  go_enter Tryd.func67, Tryd.ntmps67
  go_wp2
  go_ret
  exact ⟨rfl, rfl⟩
theorem byte_nil (B K : Nat) (w : World) (h : SrcAt w B K [] 0) :
    Calls Tryd.prog 67 #[.pointer (some ⟨K, 0, none⟩)] w fun e w' => e = .returned (.int .u8 0) ∧ SrcAt w' B K [] 16 ∧ Fr (fun i => i = K) w w' := by
  have HS := Lib.hid (h.set1 16)
  obtain ⟨A, c, h1, h2, h3, h4, h5⟩ := h
  have c0 : w.cell? ⟨K, 0, none⟩ = some (.slice A 0 c) := by rw [cellsAt h1]; rfl
  have c1 : w.cell? ⟨K, 1, none⟩ = some (.int .i64 0) := by rw [cellsAt h1]; rfl
  have z1 : w.frozen? ⟨K, 1, none⟩ = false := frozenAt h1 1
  clear h1 h2
  go_enter Tryd.func67, Tryd.ntmps67
  go_wp2
  go_ret
  exact ⟨rfl, HS.out, fr_cell w K _ _⟩
set_option maxHeartbeats 1000000 in
theorem byte_cons (B K : Nat) (x : UInt8) (l : List UInt8) (w : World) (h : SrcAt w B K (x :: l) 0) :
    Calls Tryd.prog 67 #[.pointer (some ⟨K, 0, none⟩)] w fun e w' => e = .returned (.int .u8 x.toNat) ∧ SrcAt w' B K l 0 ∧ Fr (fun i => i = K) w w' := by
  obtain ⟨A, c, h1, h2, h3, h4, h5⟩ := h
  obtain ⟨g, o, rfl, _, hgB, hc⟩ := h2.2 (by simp)
  have q0 : w.cell? ⟨g, o, none⟩ = some (.int .u8 x.toNat) := by
    have := hc 0 _ (show (Lib.byteCells (x :: l))[0]? = some (.int .u8 x.toNat) from rfl)
    simpa using this
  have c0 : w.cell? ⟨K, 0, none⟩ = some (.slice (some ⟨g, o, none⟩) (l.length + 1) c) := by rw [cellsAt h1]; rfl
  have c1 : w.cell? ⟨K, 1, none⟩ = some (.int .i64 0) := by rw [cellsAt h1]; rfl
  have z0 : w.frozen? ⟨K, 0, none⟩ = false := frozenAt h1 0
  have hlt := heap_lt h1
  simp only [List.length_cons] at h3
  have HF : ∀ A' : Option Addr, (0 < l.length → A' = some ⟨g, o + 1, none⟩) → SrcAt (w.setCell ⟨K, 0, none⟩ (.slice A' l.length (c - 1))) B K l 0 := by
    intro A' hA'
    refine ⟨A', c - 1, ?_, ⟨by simp [Lib.byteCells], fun hp => ⟨g, o + 1, hA' hp, Nat.zero_le _, hgB, fun j u hj => ?_⟩⟩, by omega, by omega, h5⟩
    · simp [World.setCell, Array.getElem?_modify, h1]
    · rw [World.cell?_setCell_other w _ _ _ (fun e => by have := congrArg Addr.block e; simp only at this; omega)]
      have := hc (j + 1) u (by simpa [Lib.byteCells] using hj)
      rw [show o + 1 + j = o + (j + 1) by omega]; exact this
  have HFH := Lib.hid HF
  have HB := Lib.hid h1
  have hgK : g ≠ K := by omega
  unfold maxLen at h4
  clear h1 h2 hc HF
  by_cases hc1 : c = 1
  · have hl0 : l = [] := List.eq_nil_of_length_eq_zero (by omega)
    subst hc1 hl0
    go_enter Tryd.func67, Tryd.ntmps67
    go_wp2
    go_ret
    exact ⟨rfl, HFH.out _ (fun h => by simp at h), fr_cell w K _ _⟩
  · have hl1 : ((l.length : Int) + 1 == 0) = false := by simp; omega
    go_enter Tryd.func67, Tryd.ntmps67
    go_wp2
    go_ret
    exact ⟨rfl, HFH.out _ (fun _ => rfl), fr_cell w K _ _⟩
end Go.Proofs.YtgmbgclhljobaaaDoor
