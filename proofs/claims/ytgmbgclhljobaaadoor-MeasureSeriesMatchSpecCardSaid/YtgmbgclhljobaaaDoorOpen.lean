/- Arguments of a law, opened: a slice of integers, a histogram. -/
import Derived.Test.YtgmbgclhljobaaaDoorDoor
import Derived.Test.YtgmbgclhljobaaaDoorOpenZ
import Derived.Test.YtgmbgclhljobaaaDoorChk
import Derived.Deep.SlicePairs
import Derived.Lib.SmallJoins
import Derived.SizedLaws
namespace Go.Proofs.YtgmbgclhljobaaaDoor
open Go Go.ChangeShapes Go.WideShapes Go.ChangeAt Go.RowKit Go.Deep Go.Joins

theorem bytesI : Tryd.prog.bytesOf 3 = 8 := by kernel_rfl
theorem bytesC : Tryd.prog.bytesOf 63 = 16 := by kernel_rfl
theorem cellsC : Tryd.prog.cellsOf 63 = 2 := by kernel_rfl
theorem cellsH : Tryd.prog.cellsOf 24 = 2 := by kernel_rfl

section
variable {H : Type} {enc : TypeId × Value → H} {W : World} {base : Nat}

set_option maxRecDepth 100000 in
theorem open_sl {v : Value} {d : DataW H} {p : List MemPlace} (hv : Value.okWide Tryd.prog W .any base 28 v) (h : DataW.Trod enc Tryd.prog W 0 (fun _ => true) true 28 v d p) (hs : ∀ x ∈ d.weights Tryd.prog 28, x ≤ reachBytes) :
    ∃ A n c zs, v = .slice A n c ∧ Rd W 0 W.heap.size 1 A n (ints zs) ∧ n ≤ 17592186044416 ∧ (∀ z ∈ zs, I64 z) ∧ (A = none → n = 0 ∧ c = 0) := by
  obtain ⟨a0, len, cap, rfl⟩ := okWide_slice Tryd.underlying28 hv
  obtain ⟨fuel, hf⟩ := h
  rcases open_ints Tryd.underlying28 Tryd.underlying3 cellsI hf with ⟨hcs, hx⟩ | ⟨a, len', cap', zs, hcs, _, hl, hm, hz, hx, hcell, hwz⟩
  · have hcs : [Value.slice a0 len cap] = [Value.slice none 0 0] := hcs
    simp at hcs
    obtain ⟨rfl, rfl, rfl⟩ := hcs
    exact ⟨none, 0, 0, [], rfl, Rd.nil, by omega, (fun _ h => by cases h), fun _ => ⟨rfl, rfl⟩⟩
  · have hcs : [Value.slice a0 len cap] = [Value.slice (some a) len' cap'] := hcs
    simp at hcs
    obtain ⟨rfl, rfl, rfl⟩ := hcs
    simp only [if_true] at hz
    obtain ⟨rfl, rfl⟩ : d = _ ∧ p = _ := by simpa using hx
    have hw := hs _ (by simp only [DataW.weights, Tryd.underlying28, bytesI]; exact List.mem_cons_self ..)
    simp only [lits, List.length_map, List.length_take, List.length_drop] at hw
    unfold reachBytes at hw
    refine ⟨some a, len, cap, zs.take len, rfl, ⟨by simp [ints]; omega, fun hp => ?_⟩, by omega, fun z hz' => i64_wf (hwz z (List.mem_of_mem_take hz')), (fun h => by cases h)⟩
    have h0 := hcell 0 (by omega)
    have hsp := spot_none (a := a) (by simpa [Addr.add] using h0)
    have hlt := World.block_lt_of_cell? W _ h0
    rw [add_at a hsp] at hlt
    refine ⟨a.block, a.off, by cases a; simp_all, Nat.zero_le _, hlt, fun j u hj => ?_⟩
    have hj' : j < len := by
      have := (List.getElem?_eq_some_iff.1 hj).1
      simp [ints] at this; omega
    have hc := hcell j (by omega)
    rw [add_at a hsp] at hc
    rw [hc]
    simp only [ints, List.getElem?_map, List.getElem?_take_of_lt hj', Option.map_eq_some_iff] at hj
    obtain ⟨z, hz1, rfl⟩ := hj
    rw [List.getD_eq_getElem?_getD, hz1]; rfl

set_option maxRecDepth 100000 in
theorem open_hist {v : Value} {d : DataW H} {p : List MemPlace} (hv : Value.okWide Tryd.prog W .any base 24 v) (h : DataW.Trod enc Tryd.prog W 0 (fun _ => true) true 24 v d p) (hs : ∀ x ∈ d.weights Tryd.prog 24, x ≤ reachBytes) :
    ∃ b A c cs, v = .agg #[.int .i64 b, .slice A cs.length c] ∧ I64 b ∧ Rd W 0 W.heap.size 2 A cs.length (cells2 cs) ∧ cs.length ≤ 8796093022208 ∧ (∀ q ∈ cs, I64 q.1 ∧ I64 q.2) := by
  obtain ⟨c0, c1, y0, y1, m, rfl, rfl, rfl, hy0, hy1⟩ := open_agg2 Tryd.underlying24 (by kernel_rfl) cellsH hv h
  obtain ⟨b, e0, rfl, wb⟩ := DataW.trod_int Tryd.underlying3 hy0
  simp at e0
  subst e0
  rcases open_slice_pairs Tryd.underlying22 Tryd.underlying63 cellsC rfl rfl cellsI cellsI hy1 with ⟨hcs, hx⟩ | ⟨a, len, cap, k, n, V0, V1, D0, D1, P0, P1, hcs, _, hl, hm, hk, hx, hall⟩
  · simp at hcs
    subst hcs
    exact ⟨b, none, 0, [], rfl, i64_wf wb, Rd.nil, by simp, fun _ h => by cases h⟩
  · simp at hcs
    subst hcs
    simp only [if_true] at hk
    subst hk
    have hv0 : ∀ i, i < k → ∃ z, V0 i = .int .i64 z ∧ I64 z := by
      intro i hi
      obtain ⟨z, e, _, hz⟩ := DataW.trod_int Tryd.underlying3 (hall i hi).2.2.1
      simp at e
      exact ⟨z, e, i64_wf hz⟩
    have hv1 : ∀ i, i < k → ∃ z, V1 i = .int .i64 z ∧ I64 z := by
      intro i hi
      obtain ⟨z, e, _, hz⟩ := DataW.trod_int Tryd.underlying3 (hall i hi).2.2.2
      simp at e
      exact ⟨z, e, i64_wf hz⟩
    have hw := hs (len * 16 + (k - len) * 16) (by
      subst hx
      simp only [DataW.weights, Tryd.underlying24, Tryd.underlying22, DataW.weightsEach, List.map_cons, List.map_nil, bytesC]
      simp [Nat.add_mul])
    unfold reachBytes at hw
    let num : Value → Int := fun v => match v with | .int _ z => z | _ => 0
    have hl' : ((List.range len).map fun i => (num (V0 i), num (V1 i))).length = len := by simp
    refine ⟨b, some a, k, (List.range len).map fun i => (num (V0 i), num (V1 i)), by rw [hl'], i64_wf wb, ⟨by rw [cells2_length], fun hp => ?_⟩, by rw [hl']; omega, ?_⟩
    · rw [hl'] at hp
      have h0 := (hall 0 (by omega)).1
      have hsp := spot_none (a := a) (by simpa [Addr.add] using h0)
      have hlt := World.block_lt_of_cell? W _ h0
      rw [add_at a hsp] at hlt
      refine ⟨a.block, a.off, by cases a; simp_all, Nat.zero_le _, hlt, fun j u hj => ?_⟩
      have hj' : j < len * 2 := by
        have := (List.getElem?_eq_some_iff.1 hj).1
        rw [cells2_length, hl'] at this; exact this
      obtain ⟨i, hi⟩ : ∃ i, j = i * 2 ∨ j = i * 2 + 1 := ⟨j / 2, by omega⟩
      have hil : i < len := by omega
      have hget : ((List.range len).map fun i => (num (V0 i), num (V1 i)))[i]? = some (num (V0 i), num (V1 i)) := by simp [hil]
      obtain ⟨g0, g1⟩ := cells2_get hget
      obtain ⟨c0, c1, _, _⟩ := hall i (by omega)
      rw [add_at a hsp] at c0 c1
      obtain ⟨z0, e0, _⟩ := hv0 i (by omega)
      obtain ⟨z1, e1, _⟩ := hv1 i (by omega)
      rcases hi with rfl | rfl
      · rw [g0] at hj
        rw [c0, ← hj, e0]
      · rw [g1] at hj
        rw [c1, ← hj, e1]
    · intro q hq
      simp only [List.mem_map, List.mem_range] at hq
      obtain ⟨i, hi, rfl⟩ := hq
      obtain ⟨z0, e0, w0⟩ := hv0 i (by omega)
      obtain ⟨z1, e1, w1⟩ := hv1 i (by omega)
      rw [e0, e1]
      exact ⟨w0, w1⟩
theorem bulk_pos (d : DataW H) : 1 ≤ Rows.uptoBulk d := by
  cases d with
  | lit l => cases l <;> simp [Rows.uptoBulk]
  | nil => simp [Rows.uptoBulk]
  | ptr d => simp [Rows.uptoBulk]
  | slice elems spare => simp [Rows.uptoBulk]
  | agg parts => simp [Rows.uptoBulk]
  | iface t d => simp [Rows.uptoBulk]
  | map entries => simp [Rows.uptoBulk]
  | held h => simp [Rows.uptoBulk]
theorem bulk_len : ∀ l : List (DataW H), l.length ≤ Rows.uptoBulkAll l
  | [] => Nat.zero_le _
  | d :: l => by have h1 := bulk_len l; have h2 := bulk_pos d; simp only [List.length_cons, Rows.uptoBulkAll]; omega
theorem bulk_all {l : List (DataW H)} (hk : Rows.uptoSmall H l = true) : Rows.uptoBulkAll l ≤ 1048576 := of_decide_eq_true hk
set_option maxRecDepth 100000 in
theorem sl_bulk {A : Option Addr} {n c : Nat} {d : DataW H} {p : List MemPlace} (h : DataW.Trod enc Tryd.prog W 0 (fun _ => true) true 28 (.slice A n c) d p) : n ≤ Rows.uptoBulk d := by
  obtain ⟨fuel, hf⟩ := h
  rcases open_ints Tryd.underlying28 Tryd.underlying3 cellsI hf with ⟨hcs, hx⟩ | ⟨a, len', cap', zs, hcs, _, hl, hm, hz, hx, hcell, hwz⟩
  · have hcs : [Value.slice A n c] = [Value.slice none 0 0] := hcs
    simp at hcs
    obtain ⟨rfl, rfl, rfl⟩ := hcs
    exact Nat.zero_le _
  · have hcs : [Value.slice A n c] = [Value.slice (some a) len' cap'] := hcs
    simp at hcs
    obtain ⟨rfl, rfl, rfl⟩ := hcs
    simp only [if_true] at hz
    obtain ⟨rfl, rfl⟩ : d = _ ∧ p = _ := by simpa using hx
    have := bulk_len (H := H) (lits .i64 (zs.take n))
    simp only [Rows.uptoBulk]
    simp only [lits, List.length_map, List.length_take] at *
    omega
end
end Go.Proofs.YtgmbgclhljobaaaDoor
