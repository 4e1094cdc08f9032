/- Ink: texts, histograms, rows and changes that may lie above the Ink. -/
import Derived.Test.YtjkoppdddaknlaaGreatDoorG26
import Derived.Test.YtjkoppdddaknlaaGreatDoorG17
namespace Go.Proofs.YtjkoppdddaknlaaGreatDoor
open Go Go.RowKit Go.Proofs

/-- texts as cells -/
def strC (zs : List ByteArray) : List Value := zs.map Value.string
theorem strC_length (zs : List ByteArray) : (strC zs).length = zs.length := by simp [strC]
theorem strC_get {zs : List ByteArray} {i : Nat} {u : Value} (h : (strC zs)[i]? = some u) : ∃ z, zs[i]? = some z ∧ u = .string z := by
  unfold strC at h
  rw [List.getElem?_map] at h
  cases hz : zs[i]? with
  | none => rw [hz] at h; cases h
  | some z => rw [hz] at h; simp at h; exact ⟨z, rfl, h.symm⟩
def inkTs (zs : List ByteArray) : List UInt8 := zs.flatMap fun s => inkText s.data.toList
def inkTexts (zs : List ByteArray) : List UInt8 := inkInt zs.length ++ inkTs zs
theorem inkTs_take {zs : List ByteArray} {i : Nat} {z : ByteArray} (h : zs[i]? = some z) : inkTs (zs.take (i + 1)) = inkTs (zs.take i) ++ inkText z.data.toList := by
  unfold inkTs; rw [List.take_add_one, h]; simp
theorem inkText_len {L : List UInt8} (h : L.length ≤ 10000000) : (inkText L).length ≤ 22 + 10000000 := by
  have := inkInt_length (L.length : Int) (by omega) (by omega)
  unfold inkText
  rw [List.length_append]
  omega
theorem inkTs_length (zs : List ByteArray) (h : ∀ z ∈ zs, z.size ≤ 10000000) : (inkTs zs).length ≤ 10000022 * zs.length := by
  induction zs with
  | nil => simp [inkTs]
  | cons z zs ih =>
    have h1 := inkText_len (L := z.data.toList) (by have := h z (by simp); rwa [Array.length_toList])
    have := ih (fun x hx => h x (by simp [hx]))
    simp only [inkTs, List.flatMap_cons, List.length_append, List.length_cons] at *
    omega
theorem ba_list (z : ByteArray) : (⟨z.data.toList.toArray⟩ : ByteArray) = z := by cases z; simp
/-- what Changes writes -/
def inkChg (cs : List (Int × Int)) : List UInt8 := inkInt cs.length ++ inkPairs cs
/-- a row of Group: its texts, its histogram's counts, how many have failed; where they lie -/
structure RowX where
  vals : List ByteArray
  cs : List (Int × Int)
  f : Int
  vA : Option Addr
  vc : Nat
  hA : Option Addr
  hc : Nat
instance : Inhabited RowX := ⟨⟨[], [], 0, none, 0, none, 0⟩⟩
def rowCells (l : List RowX) : List Value := l.flatMap fun r => [.slice r.vA r.vals.length r.vc, .int .i64 8, .slice r.hA r.cs.length r.hc, .int .i64 r.f]
theorem rowCells_length (l : List RowX) : (rowCells l).length = l.length * 4 := flat_length _ 4 (fun _ => rfl) l
/-- the slice reads as these rows -/
def GrR (w : World) (A : Option Addr) (l : List RowX) : Prop :=
  Rd w 0 w.heap.size 4 A l.length (rowCells l) ∧ ∀ r ∈ l, Rd w 0 w.heap.size 1 r.vA r.vals.length (strC r.vals) ∧ Rd w 0 w.heap.size 2 r.hA r.cs.length (cells2 r.cs)
theorem GrR.at {w : World} {A : Option Addr} {l : List RowX} {i : Nat} (h : GrR w A l) (hi : i < l.length) : ∃ b o r, A = some ⟨b, o, none⟩ ∧ b < w.heap.size ∧ l[i]? = some r ∧ w.cell? ⟨b, o + i * 4, none⟩ = some (.slice r.vA r.vals.length r.vc) ∧ w.cell? ⟨b, o + i * 4 + 1, none⟩ = some (.int .i64 8) ∧
    w.cell? ⟨b, o + i * 4 + 2, none⟩ = some (.slice r.hA r.cs.length r.hc) ∧ w.cell? ⟨b, o + i * 4 + 3, none⟩ = some (.int .i64 r.f) := by
  obtain ⟨b, o, e, _, hb, hc⟩ := h.1.2 (by omega)
  obtain ⟨s, hs⟩ : ∃ s, l[i]? = some s := ⟨l[i]'(by omega), List.getElem?_eq_getElem (by omega)⟩
  have g : ∀ j, j < 4 → (rowCells l)[i * 4 + j]? = _ := fun j hj => flat_get _ 4 (fun _ => rfl) l i j hj s hs
  refine ⟨b, o, s, e, hb, hs, ?_, ?_, ?_, ?_⟩
  · have := hc (i * 4 + 0) _ (g 0 (by omega)); simpa using this
  · have := hc (i * 4 + 1) _ (g 1 (by omega)); simpa [Nat.add_assoc] using this
  · have := hc (i * 4 + 2) _ (g 2 (by omega)); simpa [Nat.add_assoc] using this
  · have := hc (i * 4 + 3) _ (g 3 (by omega)); simpa [Nat.add_assoc] using this
def inkRow (r : RowX) : List UInt8 := inkTexts r.vals ++ inkHist 8 r.cs ++ inkInt r.f
def inkRs (l : List RowX) : List UInt8 := l.flatMap inkRow
def inkRows (l : List RowX) : List UInt8 := inkInt l.length ++ inkRs l
theorem inkRs_take {l : List RowX} {i : Nat} {r : RowX} (h : l[i]? = some r) : inkRs (l.take (i + 1)) = inkRs (l.take i) ++ inkRow r := by
  unfold inkRs; rw [List.take_add_one, h]; simp
/-- a row within bounds -/
structure OkX (r : RowX) : Prop where
  vl : r.vals.length ≤ 5
  vs : ∀ z ∈ r.vals, z.size ≤ 10000000
  cl : r.cs.length ≤ 100000
  cv : ∀ c ∈ r.cs, I64 c.1 ∧ I64 c.2
  fv : I64 r.f
theorem inkRow_length {r : RowX} (h : OkX r) : (inkRow r).length ≤ 100000000 := by
  have h1 := inkTs_length r.vals h.vs
  have h2 := inkPairs_length r.cs h.cv
  have h3 := inkInt_length r.f h.fv.1 h.fv.2
  have h4 := inkInt_length (r.vals.length : Int) (by have := h.vl; omega) (by have := h.vl; omega)
  have h5 := inkInt_length (r.cs.length : Int) (by have := h.cl; omega) (by have := h.cl; omega)
  have h6 := inkInt_length (8 : Int) (by omega) (by omega)
  have := h.vl
  have := h.cl
  unfold inkRow inkTexts inkHist
  simp only [List.length_append]
  omega
theorem inkRs_length (l : List RowX) (h : ∀ r ∈ l, OkX r) : (inkRs l).length ≤ 100000000 * l.length := by
  induction l with
  | nil => simp [inkRs]
  | cons z zs ih =>
    have h1 := inkRow_length (h z (by simp))
    have := ih (fun x hx => h x (by simp [hx]))
    simp only [inkRs, List.flatMap_cons, List.length_append, List.length_cons] at *
    omega
end Go.Proofs.YtjkoppdddaknlaaGreatDoor
