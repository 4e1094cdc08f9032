/- A slice of integers that is an argument of a law, opened; with its capacity. -/
import Derived.Test.YtpmnhdgajkickaaGreatDoorB26
import Derived.Test.YtpmnhdgajkickaaGreatDoorIBlk
import Derived.Deep.SlicePairs
import Derived.Deep.Strs
import Derived.Lib.SmallJoins
import Derived.SizedLaws
namespace Go.Proofs.YtpmnhdgajkickaaGreatDoor
open Go Go.ChangeShapes Go.WideShapes Go.ChangeAt Go.RowKit Go.Deep Go.Joins

theorem cellsI2 : Tryz.prog.cellsOf 3 = 1 := by kernel_rfl
theorem i64_of2 {n : Int} (h : (Lit.int IntKind.i64 n).wf = true) : -9223372036854775808 ≤ n ∧ n ≤ 9223372036854775807 := by
  simp [Lit.wf, IntKind.min, IntKind.max, IntKind.signed, IntKind.bits] at h
  exact ⟨by omega, by omega⟩
theorem spot_none2 {w : World} {a : Addr} {v : Value} (h : w.cell? a = some v) : a.spot = none := by
  unfold World.cell? at h
  split at h
  · split at h
    · cases h
    · rename_i hs; simpa using hs
  · cases h
theorem add_at2 (a : Addr) (h : a.spot = none) (i : Nat) : a.add i = ⟨a.block, a.off + i, none⟩ := by
  unfold Addr.add
  split
  · rename_i e; subst e; cases a; simp_all
  · rfl
section
variable {H : Type} {enc : TypeId × Value → H} {W : World} {base : Nat}
set_option maxRecDepth 100000 in
theorem open_sl2 {v : Value} {d : DataW H} {p : List MemPlace} (hv : Value.okWide Tryz.prog W .any base 32 v) (h : DataW.Trod enc Tryz.prog W 0 (fun _ => true) true 32 v d p) :
    ∃ A n c zs, v = .slice A n c ∧ Rd W 0 W.heap.size 1 A n (ints zs) ∧ n ≤ 9223372036854775807 ∧ n ≤ c ∧ (∀ z ∈ zs, -9223372036854775808 ≤ z ∧ z ≤ 9223372036854775807) ∧ (A = none → n = 0 ∧ c = 0) := by
  obtain ⟨a0, len, cap, rfl⟩ := okWide_slice Tryz.underlying32 hv
  obtain ⟨fuel, hf⟩ := h
  rcases open_ints Tryz.underlying32 Tryz.underlying3 cellsI2 hf with ⟨hcs, hx⟩ | ⟨a, len', cap', zs, hcs, _, hl, hm, hz, hx, hcell, hwz⟩
  · have hcs : [Value.slice a0 len cap] = [Value.slice none 0 0] := hcs
    simp at hcs
    obtain ⟨rfl, rfl, rfl⟩ := hcs
    exact ⟨none, 0, 0, [], rfl, Rd.nil, by omega, Nat.le_refl _, (fun _ h => by cases h), fun _ => ⟨rfl, rfl⟩⟩
  · have hcs : [Value.slice a0 len cap] = [Value.slice (some a) len' cap'] := hcs
    simp at hcs
    obtain ⟨rfl, rfl, rfl⟩ := hcs
    simp only [if_true] at hz
    obtain ⟨rfl, rfl⟩ : d = _ ∧ p = _ := by simpa using hx
    unfold maxLen at hm
    refine ⟨some a, len, cap, zs.take len, rfl, ⟨by simp [ints]; omega, fun hp => ?_⟩, by omega, by omega, fun z hz' => i64_of2 (hwz z (List.mem_of_mem_take hz')), (fun h => by cases h)⟩
    have h0 := hcell 0 (by omega)
    have hsp := spot_none2 (a := a) (by simpa [Addr.add] using h0)
    have hlt := World.block_lt_of_cell? W _ h0
    rw [add_at2 a hsp] at hlt
    refine ⟨a.block, a.off, by cases a; simp_all, Nat.zero_le _, hlt, fun j u hj => ?_⟩
    have hj' : j < len := by
      have := (List.getElem?_eq_some_iff.1 hj).1
      simp [ints] at this; omega
    have hc := hcell j (by omega)
    rw [add_at2 a hsp] at hc
    rw [hc]
    simp only [ints, List.getElem?_map, List.getElem?_take_of_lt hj', Option.map_eq_some_iff] at hj
    obtain ⟨z, hz1, rfl⟩ := hj
    rw [List.getD_eq_getElem?_getD, hz1]; rfl

set_option maxRecDepth 100000 in
theorem open_ints2 {v : Value} {d : DataW H} {p : List MemPlace} (hv : Value.okWide Tryz.prog W .any base 32 v) (h : DataW.Trod enc Tryz.prog W 0 (fun _ => true) true 32 v d p) :
    ∃ A c zs, v = .slice A zs.length c ∧ Rd W 0 W.heap.size 1 A zs.length (ints zs) ∧ zs.length ≤ c := by
  obtain ⟨A, n, c, zs, rfl, hr, hn, hc, hz, _⟩ := open_sl2 hv h
  obtain rfl : n = zs.length := by have := hr.1; rw [ints_length] at this; omega
  exact ⟨A, c, zs, rfl, hr, hc⟩
end
end Go.Proofs.YtpmnhdgajkickaaGreatDoor
