import Derived.Test.YtepfmoaihhonlaaGreatDoorCards
import Derived.Test.YtepfmoaihhonlaaGreatDoorTie
import Derived.Test.YtepfmoaihhonlaaGreatDoorG45
import Derived.WalkKit
import Derived.ProofKit
import Derived.OpenShut
import Derived.Deep.DeepHandedRow
import Derived.Lib.LaidTab
import Derived.Test.YtepfmoaihhonlaaGreatDoorChk
import Derived.Deep.SlicePairs
import Derived.Lib.SmallJoins
import Derived.SizedLaws
/- What every law behind the door shares: the table that its row lists, a world for the witness, and the card out of the row's statement. -/
namespace Go.Proofs.YtepfmoaihhonlaaGreatDoor
open Go Go.ChangeShapes Go.WideShapes Go.ChangeAt Go.RowKit

theorem gPow : Tryz.prog.globalNamed "internal/strconv.uint64pow10" = some 2 := by kernel_rfl
theorem gPowType : (Tryz.prog.globals[2]?).map (·.type) = some 278 := by kernel_rfl
theorem cellsPow : Tryz.prog.cellsOf 278 = 20 := by kernel_rfl
theorem cellsU : Tryz.prog.cellsOf 168 = 1 := by kernel_rfl

/-- the list of the rows of this seat -/
abbrev laid3 : List (String × DataW Unit) := [("math/bits.deBruijn32tab", Rows.laid_math_bits_deBruijn32tab), ("math/bits.deBruijn64tab", Rows.laid_math_bits_deBruijn64tab), ("internal/strconv.uint64pow10", Rows.laid_internal_strconv_uint64pow10)]

theorem table {W : World} (h0 : laidMetH Tryz.prog laid3 W) : Tab W.heap.size W := by
  have h : laidMet Tryz.prog laid3 W := h0
  refine Lib.tabBelow_of_tabIs ?_
  obtain ⟨ps, ⟨g1, t1, cs1, fu1, p1, q1, _, _, _, _, ⟨g2, t2, cs2, fu2, p2, q2, _, _, _, _, ⟨g', t', cs, fuel, p, q, hg', ht', hvar, hd, _, _⟩, _⟩, _⟩, _⟩ := h
  obtain rfl := Option.some.inj (gPow.symm.trans hg')
  obtain rfl := Option.some.inj (gPowType.symm.trans ht')
  unfold Lib.TabIs
  rw [hvar, ← Lib.cells_of_tab Tryz.underlying278 Tryz.underlying168 cellsU cellsPow hd]

/-- A WORLD FOR THE WITNESS: the settled one, the tables holding what their initialisers lay. -/
def fillOf : DataW Unit → Array Value
  | .agg ds => (ds.map fun | .lit l => l.value | _ => default).toArray
  | _ => #[]
def fillAt (d : DataW Unit) : Obj → Obj
  | .cells _ t frozen => .cells (fillOf d) t frozen
  | o => o
noncomputable def laidWorld (os : Os) : World :=
  { World.holding Tryz.prog os ⟨#[], #[], []⟩ with heap := (((World.holding Tryz.prog os ⟨#[], #[], []⟩).heap.modify 2 (fillAt Rows.laid_internal_strconv_uint64pow10)).modify 4 (fillAt Rows.laid_math_bits_deBruijn32tab)).modify 5 (fillAt Rows.laid_math_bits_deBruijn64tab) }
theorem laid_met (os : Os) (args : Array Value) : laidMet Tryz.prog laid3 ((laidWorld os).forCall (fun _ _ => 0) ⟨#[], args, []⟩).memory :=
  laidMet_of_run' 8 (by kernel_rfl) (by kernel_rfl)
theorem i64_wf {n : Int} (h : (Lit.int IntKind.i64 n).wf = true) : I64 n := by
  simp [Lit.wf, IntKind.min, IntKind.max, IntKind.signed, IntKind.bits] at h
  exact ⟨by omega, by omega⟩
end Go.Proofs.YtepfmoaihhonlaaGreatDoor

/- Arguments of a law, opened: places in memory, a slice of integers. -/
namespace Go.Proofs.YtepfmoaihhonlaaGreatDoor
open Go Go.ChangeShapes Go.WideShapes Go.ChangeAt Go.RowKit Go.Deep Go.Joins

theorem cellsI : Tryz.prog.cellsOf 3 = 1 := by kernel_rfl
theorem i64_of {n : Int} (h : (Lit.int IntKind.i64 n).wf = true) : -9223372036854775808 ≤ n ∧ n ≤ 9223372036854775807 := by
  simp [Lit.wf, IntKind.min, IntKind.max, IntKind.signed, IntKind.bits] at h
  exact ⟨by omega, by omega⟩
theorem spot_none {w : World} {a : Addr} {v : Value} (h : w.cell? a = some v) : a.spot = none := by
  unfold World.cell? at h
  split at h
  · split at h
    · cases h
    · rename_i hs; simpa using hs
  · cases h
theorem addr_eq {w : World} {a : Addr} {v : Value} (h : w.cell? a = some v) : a = ⟨a.block, a.off, none⟩ := by
  have := spot_none h
  cases a; simp_all
theorem add_at (a : Addr) (h : a.spot = none) (i : Nat) : a.add i = ⟨a.block, a.off + i, none⟩ := by
  unfold Addr.add
  split
  · rename_i e; subst e; cases a; simp_all
  · rfl

section
variable {H : Type} {enc : TypeId × Value → H} {W : World} {base : Nat}
set_option maxRecDepth 100000 in
theorem open_sl0 {v : Value} {d : DataW H} {p : List MemPlace} (hv : Value.okWide Tryz.prog W .any base 36 v) (h : DataW.Trod enc Tryz.prog W 0 (fun _ => true) true 36 v d p) :
    ∃ A n c zs, v = .slice A n c ∧ Rd W 0 W.heap.size 1 A n (ints zs) ∧ n ≤ 9223372036854775807 ∧ (∀ z ∈ zs, -9223372036854775808 ≤ z ∧ z ≤ 9223372036854775807) ∧ (A = none → n = 0 ∧ c = 0) := by
  obtain ⟨a0, len, cap, rfl⟩ := okWide_slice Tryz.underlying36 hv
  obtain ⟨fuel, hf⟩ := h
  rcases open_ints Tryz.underlying36 Tryz.underlying3 cellsI hf with ⟨hcs, hx⟩ | ⟨a, len', cap', zs, hcs, _, hl, hm, hz, hx, hcell, hwz⟩
  · have hcs : [Value.slice a0 len cap] = [Value.slice none 0 0] := hcs
    simp at hcs
    obtain ⟨rfl, rfl, rfl⟩ := hcs
    exact ⟨none, 0, 0, [], rfl, Rd.nil, by omega, (fun _ h => by cases h), fun _ => ⟨rfl, rfl⟩⟩
  · have hcs : [Value.slice a0 len cap] = [Value.slice (some a) len' cap'] := hcs
    simp at hcs
    obtain ⟨rfl, rfl, rfl⟩ := hcs
    simp only [if_true] at hz
    obtain ⟨rfl, rfl⟩ : d = _ ∧ p = _ := by simpa using hx
    unfold maxLen at hm
    refine ⟨some a, len, cap, zs.take len, rfl, ⟨by simp [ints]; omega, fun hp => ?_⟩, by omega, fun z hz' => i64_of (hwz z (List.mem_of_mem_take hz')), (fun h => by cases h)⟩
    have h0 := hcell 0 (by omega)
    have hsp := spot_none (a := a) (by simpa [Addr.add] using h0)
    have hlt := World.block_lt_of_cell? W _ h0
    rw [add_at a hsp] at hlt
    refine ⟨a.block, a.off, by cases a; simp_all, Nat.zero_le _, hlt, fun j u hj => ?_⟩
    have hj' : j < len := by
      have := (List.getElem?_eq_some_iff.1 hj).1
      simp [ints] at this; omega
    have hc := hcell j (by omega)
    rw [add_at a hsp] at hc
    rw [hc]
    simp only [ints, List.getElem?_map, List.getElem?_take_of_lt hj', Option.map_eq_some_iff] at hj
    obtain ⟨z, hz1, rfl⟩ := hj
    rw [List.getD_eq_getElem?_getD, hz1]; rfl

end
end Go.Proofs.YtepfmoaihhonlaaGreatDoor

/- Arguments of a law, opened: a slice of integers, a histogram. -/
namespace Go.Proofs.YtepfmoaihhonlaaGreatDoor
open Go Go.ChangeShapes Go.WideShapes Go.ChangeAt Go.RowKit Go.Deep Go.Joins

theorem bytesI : Tryz.prog.bytesOf 3 = 8 := by kernel_rfl
theorem bytesC : Tryz.prog.bytesOf 121 = 16 := by kernel_rfl
theorem cellsC : Tryz.prog.cellsOf 121 = 2 := by kernel_rfl
theorem cellsH : Tryz.prog.cellsOf 53 = 2 := by kernel_rfl

section
variable {H : Type} {enc : TypeId × Value → H} {W : World} {base : Nat}

set_option maxRecDepth 100000 in
theorem open_sl {v : Value} {d : DataW H} {p : List MemPlace} (hv : Value.okWide Tryz.prog W .any base 36 v) (h : DataW.Trod enc Tryz.prog W 0 (fun _ => true) true 36 v d p) (hs : ∀ x ∈ d.weights Tryz.prog 36, x ≤ reachBytes) :
    ∃ A n c zs, v = .slice A n c ∧ Rd W 0 W.heap.size 1 A n (ints zs) ∧ n ≤ 17592186044416 ∧ (∀ z ∈ zs, I64 z) ∧ (A = none → n = 0 ∧ c = 0) := by
  obtain ⟨a0, len, cap, rfl⟩ := okWide_slice Tryz.underlying36 hv
  obtain ⟨fuel, hf⟩ := h
  rcases open_ints Tryz.underlying36 Tryz.underlying3 cellsI hf with ⟨hcs, hx⟩ | ⟨a, len', cap', zs, hcs, _, hl, hm, hz, hx, hcell, hwz⟩
  · have hcs : [Value.slice a0 len cap] = [Value.slice none 0 0] := hcs
    simp at hcs
    obtain ⟨rfl, rfl, rfl⟩ := hcs
    exact ⟨none, 0, 0, [], rfl, Rd.nil, by omega, (fun _ h => by cases h), fun _ => ⟨rfl, rfl⟩⟩
  · have hcs : [Value.slice a0 len cap] = [Value.slice (some a) len' cap'] := hcs
    simp at hcs
    obtain ⟨rfl, rfl, rfl⟩ := hcs
    simp only [if_true] at hz
    obtain ⟨rfl, rfl⟩ : d = _ ∧ p = _ := by simpa using hx
    have hw := hs _ (by simp only [DataW.weights, Tryz.underlying36, bytesI]; exact List.mem_cons_self ..)
    simp only [lits, List.length_map, List.length_take, List.length_drop] at hw
    unfold reachBytes at hw
    refine ⟨some a, len, cap, zs.take len, rfl, ⟨by simp [ints]; omega, fun hp => ?_⟩, by omega, fun z hz' => i64_wf (hwz z (List.mem_of_mem_take hz')), (fun h => by cases h)⟩
    have h0 := hcell 0 (by omega)
    have hsp := spot_none (a := a) (by simpa [Addr.add] using h0)
    have hlt := World.block_lt_of_cell? W _ h0
    rw [add_at a hsp] at hlt
    refine ⟨a.block, a.off, by cases a; simp_all, Nat.zero_le _, hlt, fun j u hj => ?_⟩
    have hj' : j < len := by
      have := (List.getElem?_eq_some_iff.1 hj).1
      simp [ints] at this; omega
    have hc := hcell j (by omega)
    rw [add_at a hsp] at hc
    rw [hc]
    simp only [ints, List.getElem?_map, List.getElem?_take_of_lt hj', Option.map_eq_some_iff] at hj
    obtain ⟨z, hz1, rfl⟩ := hj
    rw [List.getD_eq_getElem?_getD, hz1]; rfl

set_option maxRecDepth 100000 in
theorem open_hist {v : Value} {d : DataW H} {p : List MemPlace} (hv : Value.okWide Tryz.prog W .any base 53 v) (h : DataW.Trod enc Tryz.prog W 0 (fun _ => true) true 53 v d p) (hs : ∀ x ∈ d.weights Tryz.prog 53, x ≤ reachBytes) :
    ∃ b A c cs, v = .agg #[.int .i64 b, .slice A cs.length c] ∧ I64 b ∧ Rd W 0 W.heap.size 2 A cs.length (cells2 cs) ∧ cs.length ≤ 8796093022208 ∧ (∀ q ∈ cs, I64 q.1 ∧ I64 q.2) := by
  obtain ⟨c0, c1, y0, y1, m, rfl, rfl, rfl, hy0, hy1⟩ := open_agg2 Tryz.underlying53 (by kernel_rfl) cellsH hv h
  obtain ⟨b, e0, rfl, wb⟩ := DataW.trod_int Tryz.underlying3 hy0
  simp at e0
  subst e0
  rcases open_slice_pairs Tryz.underlying51 Tryz.underlying121 cellsC rfl rfl cellsI cellsI hy1 with ⟨hcs, hx⟩ | ⟨a, len, cap, k, n, V0, V1, D0, D1, P0, P1, hcs, _, hl, hm, hk, hx, hall⟩
  · simp at hcs
    subst hcs
    exact ⟨b, none, 0, [], rfl, i64_wf wb, Rd.nil, by simp, fun _ h => by cases h⟩
  · simp at hcs
    subst hcs
    simp only [if_true] at hk
    subst hk
    have hv0 : ∀ i, i < k → ∃ z, V0 i = .int .i64 z ∧ I64 z := by
      intro i hi
      obtain ⟨z, e, _, hz⟩ := DataW.trod_int Tryz.underlying3 (hall i hi).2.2.1
      simp at e
      exact ⟨z, e, i64_wf hz⟩
    have hv1 : ∀ i, i < k → ∃ z, V1 i = .int .i64 z ∧ I64 z := by
      intro i hi
      obtain ⟨z, e, _, hz⟩ := DataW.trod_int Tryz.underlying3 (hall i hi).2.2.2
      simp at e
      exact ⟨z, e, i64_wf hz⟩
    have hw := hs (len * 16 + (k - len) * 16) (by
      subst hx
      simp only [DataW.weights, Tryz.underlying53, Tryz.underlying51, DataW.weightsEach, List.map_cons, List.map_nil, bytesC]
      simp [Nat.add_mul])
    unfold reachBytes at hw
    let num : Value → Int := fun v => match v with | .int _ z => z | _ => 0
    have hl' : ((List.range len).map fun i => (num (V0 i), num (V1 i))).length = len := by simp
    refine ⟨b, some a, k, (List.range len).map fun i => (num (V0 i), num (V1 i)), by rw [hl'], i64_wf wb, ⟨by rw [cells2_length], fun hp => ?_⟩, by rw [hl']; omega, ?_⟩
    · rw [hl'] at hp
      have h0 := (hall 0 (by omega)).1
      have hsp := spot_none (a := a) (by simpa [Addr.add] using h0)
      have hlt := World.block_lt_of_cell? W _ h0
      rw [add_at a hsp] at hlt
      refine ⟨a.block, a.off, by cases a; simp_all, Nat.zero_le _, hlt, fun j u hj => ?_⟩
      have hj' : j < len * 2 := by
        have := (List.getElem?_eq_some_iff.1 hj).1
        rw [cells2_length, hl'] at this; exact this
      obtain ⟨i, hi⟩ : ∃ i, j = i * 2 ∨ j = i * 2 + 1 := ⟨j / 2, by omega⟩
      have hil : i < len := by omega
      have hget : ((List.range len).map fun i => (num (V0 i), num (V1 i)))[i]? = some (num (V0 i), num (V1 i)) := by simp [hil]
      obtain ⟨g0, g1⟩ := cells2_get hget
      obtain ⟨c0, c1, _, _⟩ := hall i (by omega)
      rw [add_at a hsp] at c0 c1
      obtain ⟨z0, e0, _⟩ := hv0 i (by omega)
      obtain ⟨z1, e1, _⟩ := hv1 i (by omega)
      rcases hi with rfl | rfl
      · rw [g0] at hj
        rw [c0, ← hj, e0]
      · rw [g1] at hj
        rw [c1, ← hj, e1]
    · intro q hq
      simp only [List.mem_map, List.mem_range] at hq
      obtain ⟨i, hi, rfl⟩ := hq
      obtain ⟨z0, e0, w0⟩ := hv0 i (by omega)
      obtain ⟨z1, e1, w1⟩ := hv1 i (by omega)
      rw [e0, e1]
      exact ⟨w0, w1⟩
theorem bulk_pos (d : DataW H) : 1 ≤ Rows.uptoBulk d := by
  cases d with
  | lit l => cases l <;> simp [Rows.uptoBulk]
  | nil => simp [Rows.uptoBulk]
  | ptr d => simp [Rows.uptoBulk]
  | slice elems spare => simp [Rows.uptoBulk]
  | agg parts => simp [Rows.uptoBulk]
  | iface t d => simp [Rows.uptoBulk]
  | map entries => simp [Rows.uptoBulk]
  | held h => simp [Rows.uptoBulk]
theorem bulk_len : ∀ l : List (DataW H), l.length ≤ Rows.uptoBulkAll l
  | [] => Nat.zero_le _
  | d :: l => by have h1 := bulk_len l; have h2 := bulk_pos d; simp only [List.length_cons, Rows.uptoBulkAll]; omega
theorem bulk_all {l : List (DataW H)} (hk : Rows.uptoSmall H l = true) : Rows.uptoBulkAll l ≤ 1048576 := of_decide_eq_true hk
set_option maxRecDepth 100000 in
theorem sl_bulk {A : Option Addr} {n c : Nat} {d : DataW H} {p : List MemPlace} (h : DataW.Trod enc Tryz.prog W 0 (fun _ => true) true 36 (.slice A n c) d p) : n ≤ Rows.uptoBulk d := by
  obtain ⟨fuel, hf⟩ := h
  rcases open_ints Tryz.underlying36 Tryz.underlying3 cellsI hf with ⟨hcs, hx⟩ | ⟨a, len', cap', zs, hcs, _, hl, hm, hz, hx, hcell, hwz⟩
  · have hcs : [Value.slice A n c] = [Value.slice none 0 0] := hcs
    simp at hcs
    obtain ⟨rfl, rfl, rfl⟩ := hcs
    exact Nat.zero_le _
  · have hcs : [Value.slice A n c] = [Value.slice (some a) len' cap'] := hcs
    simp at hcs
    obtain ⟨rfl, rfl, rfl⟩ := hcs
    simp only [if_true] at hz
    obtain ⟨rfl, rfl⟩ : d = _ ∧ p = _ := by simpa using hx
    have := bulk_len (H := H) (lits .i64 (zs.take n))
    simp only [Rows.uptoBulk]
    simp only [lits, List.length_map, List.length_take] at *
    omega
end
end Go.Proofs.YtepfmoaihhonlaaGreatDoor
