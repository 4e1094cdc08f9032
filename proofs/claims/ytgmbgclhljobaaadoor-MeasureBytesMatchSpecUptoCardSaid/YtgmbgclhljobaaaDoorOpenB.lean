/- An argument of bytes, opened. -/
import Derived.Test.YtgmbgclhljobaaaDoorOpen
import Derived.Test.YtgmbgclhljobaaaDoorSrc
namespace Go.Proofs.YtgmbgclhljobaaaDoor
open Go Go.ChangeShapes Go.WideShapes Go.ChangeAt Go.RowKit Go.Deep Go.Joins

theorem cellsU8 : Tryd.prog.cellsOf 5 = 1 := by kernel_rfl
theorem u8_wf {n : Int} (h : (Lit.int IntKind.u8 n).wf = true) : 0 ≤ n ∧ n < 256 := by
  simp [Lit.wf, IntKind.min, IntKind.max, IntKind.signed, IntKind.bits] at h
  exact ⟨by omega, by omega⟩
section
variable {H : Type} {enc : TypeId × Value → H} {W : World} {base : Nat}
set_option maxRecDepth 100000 in
theorem open_by {v : Value} {d : DataW H} {p : List MemPlace} (hv : Value.okWide Tryd.prog W .any base 42 v) (h : DataW.Trod enc Tryd.prog W 0 (fun _ => true) true 42 v d p) :
    ∃ A c l, v = .slice A l.length c ∧ Rd W 0 W.heap.size 1 A l.length (Lib.byteCells l) ∧ l.length ≤ c ∧ c ≤ maxLen ∧ l.length ≤ Rows.uptoBulk d := by
  obtain ⟨a0, len, cap, rfl⟩ := okWide_slice Tryd.underlying42 hv
  obtain ⟨fuel, hf⟩ := h
  rcases open_ints Tryd.underlying42 Tryd.underlying5 cellsU8 hf with ⟨hcs, hx⟩ | ⟨a, len', cap', zs, hcs, _, hl, hm, hz, hx, hcell, hwz⟩
  · have hcs : [Value.slice a0 len cap] = [Value.slice none 0 0] := hcs
    simp at hcs
    obtain ⟨rfl, rfl, rfl⟩ := hcs
    exact ⟨none, 0, [], rfl, Rd.nil, Nat.le_refl _, Nat.zero_le _, Nat.zero_le _⟩
  · have hcs : [Value.slice a0 len cap] = [Value.slice (some a) len' cap'] := hcs
    simp at hcs
    obtain ⟨rfl, rfl, rfl⟩ := hcs
    simp only [if_true] at hz
    obtain ⟨rfl, rfl⟩ : d = _ ∧ p = _ := by simpa using hx
    have hlen : ((zs.take len).map fun z => UInt8.ofNat z.toNat).length = len := by simp; omega
    refine ⟨some a, cap, (zs.take len).map fun z => UInt8.ofNat z.toNat, by rw [hlen], ?_, by rw [hlen]; exact hl, hm, ?_⟩
    · refine ⟨by simp [Lib.byteCells], fun hp => ?_⟩
      rw [hlen] at hp
      have h0 := hcell 0 (by omega)
      have hsp := spot_none (a := a) (by simpa [Addr.add] using h0)
      have hlt := World.block_lt_of_cell? W _ h0
      rw [add_at a hsp] at hlt
      refine ⟨a.block, a.off, by cases a; simp_all, Nat.zero_le _, hlt, fun j u hj => ?_⟩
      obtain ⟨x, hx1, rfl⟩ := byteCells_get hj
      have hj' : j < len := by
        have := (List.getElem?_eq_some_iff.1 hx1).1
        rw [hlen] at this; exact this
      have hc := hcell j (by omega)
      rw [add_at a hsp] at hc
      rw [hc]
      rw [List.getElem?_map, List.getElem?_take_of_lt hj', Option.map_eq_some_iff] at hx1
      obtain ⟨z, hz1, rfl⟩ := hx1
      rw [List.getD_eq_getElem?_getD, hz1]
      have hw := u8_wf (hwz z (List.mem_of_getElem? hz1))
      have : ((UInt8.ofNat z.toNat).toNat : Int) = z := by simp; omega
      simp only [Option.getD_some, this]
    · rw [hlen]
      have := bulk_len (H := H) (lits .u8 (zs.take len))
      simp only [Rows.uptoBulk]
      simp only [lits, List.length_map, List.length_take] at *
      omega
end
end Go.Proofs.YtgmbgclhljobaaaDoor
