/- A slice of slices of integers that is an argument of a law, opened. -/
import Derived.Test.YtkoodmoilfgafaaDoorGOpen
import Derived.Test.YtkoodmoilfgafaaDoorGList
namespace Go.Proofs.YtkoodmoilfgafaaDoor
open Go Go.ChangeShapes Go.WideShapes Go.ChangeAt Go.RowKit Go.Deep Go.Joins

theorem cellsLs : Tryd.prog.cellsOf 28 = 1 := by kernel_rfl
section
variable {H : Type} {enc : TypeId × Value → H} {W : World} {base : Nat}
set_option maxRecDepth 100000 in
theorem open_slc {fuel : Nat} {v : Value} {x : DataW H × List MemPlace} (hf : DataW.trod enc Tryd.prog W 0 (fun _ => true) true fuel 28 [v] = some x) :
    ∃ A c zs, v = .slice A zs.length c ∧ Rd W 0 W.heap.size 1 A zs.length (ints zs) ∧ zs.length ≤ 9223372036854775807 ∧ (∀ z ∈ zs, -9223372036854775808 ≤ z ∧ z ≤ 9223372036854775807) ∧ (A = none → zs.length = 0 ∧ c = 0) := by
  rcases open_ints Tryd.underlying28 Tryd.underlying3 cellsI hf with ⟨hcs, hx⟩ | ⟨a, len', cap', zs, hcs, _, hl, hm, hz, hx, hcell, hwz⟩
  · simp at hcs
    subst hcs
    exact ⟨none, 0, [], rfl, Rd.nil, by simp, (fun _ h => by cases h), fun _ => ⟨rfl, rfl⟩⟩
  · simp at hcs
    subst hcs
    simp only [if_true] at hz
    unfold maxLen at hm
    have hlen : (zs.take len').length = len' := by rw [List.length_take]; omega
    refine ⟨some a, cap', zs.take len', by rw [hlen], ⟨by simp [ints], fun hp => ?_⟩, by omega, fun z hz' => i64_of (hwz z (List.mem_of_mem_take hz')), (fun h => by cases h)⟩
    rw [hlen] at hp
    have h0 := hcell 0 (by omega)
    have hsp := spot_none (a := a) (by simpa [Addr.add] using h0)
    have hlt := World.block_lt_of_cell? W _ h0
    rw [add_at a hsp] at hlt
    refine ⟨a.block, a.off, by cases a; simp_all, Nat.zero_le _, hlt, fun j u hj => ?_⟩
    have hj' : j < len' := by
      have := (List.getElem?_eq_some_iff.1 hj).1
      simp [ints] at this; omega
    have hc := hcell j (by omega)
    rw [add_at a hsp] at hc
    rw [hc]
    simp only [ints, List.getElem?_map, List.getElem?_take_of_lt hj', Option.map_eq_some_iff] at hj
    obtain ⟨z, hz1, rfl⟩ := hj
    rw [List.getD_eq_getElem?_getD, hz1]; rfl
set_option maxRecDepth 100000 in
theorem open_lists {v : Value} {d : DataW H} {p : List MemPlace} (hv : Value.okWide Tryd.prog W .any base 43 v) (h : DataW.Trod enc Tryd.prog W 0 (fun _ => true) true 43 v d p) :
    ∃ A c l, v = .slice A l.length c ∧ LsR W W.heap.size A l.length l ∧ l.length ≤ 9223372036854775807 ∧ (∀ h ∈ l, h.zs.length ≤ 9223372036854775807 ∧ ∀ z ∈ h.zs, -9223372036854775808 ≤ z ∧ z ≤ 9223372036854775807) := by
  obtain ⟨a0, len0, cap0, rfl⟩ := okWide_slice Tryd.underlying43 hv
  obtain ⟨fuel, hf⟩ := h
  rcases open_slice Tryd.underlying43 hf with ⟨hcs, hx⟩ | ⟨a, len, cap, mm, nn, D, Pl, hcs, _, hl, hm, hmm, hx, hall⟩
  · have hcs : [Value.slice a0 len0 cap0] = [Value.slice none 0 0] := hcs
    simp at hcs
    obtain ⟨rfl, rfl, rfl⟩ := hcs
    exact ⟨none, 0, [], rfl, LsR.nil, by simp, (fun _ h => by cases h)⟩
  · have hcs : [Value.slice a0 len0 cap0] = [Value.slice (some a) len cap] := hcs
    simp at hcs
    obtain ⟨rfl, rfl, rfl⟩ := hcs
    simp only [if_true] at hmm
    subst hmm
    unfold maxLen at hm
    have each : ∀ i, i < len0 → ∃ s : Ls, W.cell? (a.add i) = some (.slice s.A s.zs.length s.c) ∧
        Rd W 0 W.heap.size 1 s.A s.zs.length (ints s.zs) ∧ s.zs.length ≤ 9223372036854775807 ∧ (∀ z ∈ s.zs, -9223372036854775808 ≤ z ∧ z ≤ 9223372036854775807) ∧ (s.A = none → s.zs.length = 0 ∧ s.c = 0) := by
      intro i hi
      obtain ⟨cs', h1, h2⟩ := hall i (by omega)
      rw [cellsLs] at h1
      obtain ⟨_, hlen, hcell⟩ := World.cells?_some h1
      match cs', hlen with
      | [v0], _ =>
        obtain ⟨A2, c2, zs, rfl, r2, m2, q2, n2⟩ := open_slc h2
        have k0 := hcell 0 (by omega)
        refine ⟨⟨A2, c2, zs⟩, ?_, r2, m2, q2, n2⟩
        simpa [Addr.add, add_add] using k0
    obtain ⟨q, hq⟩ := choose_lt (α := Ls) each
    have hl' : ((List.range len0).map q).length = len0 := by simp
    refine ⟨some a, mm, (List.range len0).map q, by rw [hl'], ⟨⟨by rw [lsCells_length]; simp, fun hp => ?_⟩, fun s hs => ?_⟩, by rw [hl']; omega, fun s hs => ?_⟩
    · rw [hl'] at hp
      have h0 := (hq 0 hp).1
      have hsp := spot_none (a := a) (by simpa [Addr.add] using h0)
      have hlt := World.block_lt_of_cell? W _ h0
      rw [add_at a hsp] at hlt
      refine ⟨a.block, a.off, by cases a; simp_all, Nat.zero_le _, hlt, fun j u hj => ?_⟩
      have hj' : j < len0 := by
        have := (List.getElem?_eq_some_iff.1 hj).1
        rw [lsCells_length, hl'] at this; exact this
      have c0 := (hq j hj').1
      rw [add_at a hsp] at c0
      rw [c0, ← hj]
      unfold lsCells
      rw [List.getElem?_map, List.getElem?_map, List.getElem?_range hj']; rfl
    · simp only [List.mem_map, List.mem_range] at hs
      obtain ⟨i, hi, rfl⟩ := hs
      exact ⟨(hq i hi).2.1, (hq i hi).2.2.2.2⟩
    · simp only [List.mem_map, List.mem_range] at hs
      obtain ⟨i, hi, rfl⟩ := hs
      exact ⟨(hq i hi).2.2.1, (hq i hi).2.2.2.1⟩
end
end Go.Proofs.YtkoodmoilfgafaaDoor
