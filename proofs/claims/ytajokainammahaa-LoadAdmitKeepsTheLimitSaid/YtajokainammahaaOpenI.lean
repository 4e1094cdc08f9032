/- A slice of integers that is an argument of a law, opened. -/
import Derived.Test.YtajokainammahaaOpenStg
namespace Go.Proofs.Ytajokainammahaa
open Go Go.ChangeShapes Go.WideShapes Go.ChangeAt Go.RowKit Go.Deep Go.Joins

section
variable {H : Type} {enc : TypeId × Value → H} {W : World} {base : Nat}
set_option maxRecDepth 100000 in
theorem open_sl0 {v : Value} {d : DataW H} {p : List MemPlace} (hv : Value.okWide Try.prog W .any base 27 v) (h : DataW.Trod enc Try.prog W 0 (fun _ => true) true 27 v d p) :
    ∃ A n c zs, v = .slice A n c ∧ Rd W 0 W.heap.size 1 A n (ints zs) ∧ n ≤ 9223372036854775807 ∧ (∀ z ∈ zs, -9223372036854775808 ≤ z ∧ z ≤ 9223372036854775807) ∧ (A = none → n = 0 ∧ c = 0) := by
  obtain ⟨a0, len, cap, rfl⟩ := okWide_slice Try.underlying27 hv
  obtain ⟨fuel, hf⟩ := h
  rcases open_ints Try.underlying27 Try.underlying3 cellsI hf with ⟨hcs, hx⟩ | ⟨a, len', cap', zs, hcs, _, hl, hm, hz, hx, hcell, hwz⟩
  · have hcs : [Value.slice a0 len cap] = [Value.slice none 0 0] := hcs
    simp at hcs
    obtain ⟨rfl, rfl, rfl⟩ := hcs
    exact ⟨none, 0, 0, [], rfl, Rd.nil, by omega, (fun _ h => by cases h), fun _ => ⟨rfl, rfl⟩⟩
  · have hcs : [Value.slice a0 len cap] = [Value.slice (some a) len' cap'] := hcs
    simp at hcs
    obtain ⟨rfl, rfl, rfl⟩ := hcs
    simp only [if_true] at hz
    obtain ⟨rfl, rfl⟩ : d = _ ∧ p = _ := by simpa using hx
    unfold maxLen at hm
    refine ⟨some a, len, cap, zs.take len, rfl, ⟨by simp [ints]; omega, fun hp => ?_⟩, by omega, fun z hz' => i64_of (hwz z (List.mem_of_mem_take hz')), (fun h => by cases h)⟩
    have h0 := hcell 0 (by omega)
    have hsp := spot_none (a := a) (by simpa [Addr.add] using h0)
    have hlt := World.block_lt_of_cell? W _ h0
    rw [add_at a hsp] at hlt
    refine ⟨a.block, a.off, by cases a; simp_all, Nat.zero_le _, hlt, fun j u hj => ?_⟩
    have hj' : j < len := by
      have := (List.getElem?_eq_some_iff.1 hj).1
      simp [ints] at this; omega
    have hc := hcell j (by omega)
    rw [add_at a hsp] at hc
    rw [hc]
    simp only [ints, List.getElem?_map, List.getElem?_take_of_lt hj', Option.map_eq_some_iff] at hj
    obtain ⟨z, hz1, rfl⟩ := hj
    rw [List.getD_eq_getElem?_getD, hz1]; rfl

set_option maxRecDepth 100000 in
theorem open_ints1 {v : Value} {d : DataW H} {p : List MemPlace} (hv : Value.okWide Try.prog W .any base 27 v) (h : DataW.Trod enc Try.prog W 0 (fun _ => true) true 27 v d p) :
    ∃ A c zs, v = .slice A zs.length c ∧ Rd W 0 W.heap.size 1 A zs.length (ints zs) ∧ zs.length ≤ 9223372036854775807 ∧ (∀ z ∈ zs, -9223372036854775808 ≤ z ∧ z ≤ 9223372036854775807) := by
  obtain ⟨A, n, c, zs, rfl, hr, hn, hz, _⟩ := open_sl0 hv h
  obtain rfl : n = zs.length := by have := hr.1; rw [ints_length] at this; omega
  exact ⟨A, c, zs, rfl, hr, hn, hz⟩
end
end Go.Proofs.Ytajokainammahaa
