import Derived.Test.YtjkoppdddaknlaaGreatDoorCards
import Derived.Test.YtjkoppdddaknlaaGreatDoorTie
import Derived.Test.YtjkoppdddaknlaaGreatDoorG10
import Derived.Test.YtjkoppdddaknlaaGreatDoorG26
import Derived.WalkKit
import Derived.ProofKit
import Derived.OpenShut
import Derived.Deep.DeepHandedRow
import Derived.Lib.LaidTab
import Derived.Test.YtjkoppdddaknlaaGreatDoorG16
import Derived.Deep.SlicePairs
import Derived.Lib.SmallJoins
import Derived.SizedLaws
import Derived.Test.YtjkoppdddaknlaaGreatDoorG17
import Derived.Test.YtjkoppdddaknlaaGreatDoorInkRow
/- What every law behind the door shares: the table that its row lists, a world for the witness, and the card out of the row's statement. -/
namespace Go.Proofs.YtjkoppdddaknlaaGreatDoor
open Go Go.ChangeShapes Go.WideShapes Go.ChangeAt Go.RowKit

theorem gPow : Tryz.prog.globalNamed "internal/strconv.uint64pow10" = some 0 := by kernel_rfl
theorem gPowType : (Tryz.prog.globals[0]?).map (·.type) = some 150 := by kernel_rfl
theorem cellsPow : Tryz.prog.cellsOf 150 = 20 := by kernel_rfl
theorem cellsU : Tryz.prog.cellsOf 110 = 1 := by kernel_rfl

/-- the list of the rows of this seat -/
abbrev laid3 : List (String × DataW Unit) := [("math/bits.deBruijn32tab", Rows.laid_math_bits_deBruijn32tab), ("math/bits.deBruijn64tab", Rows.laid_math_bits_deBruijn64tab), ("internal/strconv.uint64pow10", Rows.laid_internal_strconv_uint64pow10)]

theorem table {W : World} (h0 : laidMetH Tryz.prog laid3 W) : Tab W.heap.size W := by
  have h : laidMet Tryz.prog laid3 W := h0
  refine Lib.tabBelow_of_tabIs ?_
  obtain ⟨ps, ⟨g1, t1, cs1, fu1, p1, q1, _, _, _, _, ⟨g2, t2, cs2, fu2, p2, q2, _, _, _, _, ⟨g', t', cs, fuel, p, q, hg', ht', hvar, hd, _, _⟩, _⟩, _⟩, _⟩ := h
  obtain rfl := Option.some.inj (gPow.symm.trans hg')
  obtain rfl := Option.some.inj (gPowType.symm.trans ht')
  unfold Lib.TabIs
  rw [hvar, ← Lib.cells_of_tab Tryz.underlying150 Tryz.underlying110 cellsU cellsPow hd]

/-- A WORLD FOR THE WITNESS: the settled one, the tables holding what their initialisers lay. -/
def fillOf : DataW Unit → Array Value
  | .agg ds => (ds.map fun | .lit l => l.value | _ => default).toArray
  | _ => #[]
def fillAt (d : DataW Unit) : Obj → Obj
  | .cells _ t frozen => .cells (fillOf d) t frozen
  | o => o
noncomputable def laidWorld (os : Os) : World :=
  { World.holding Tryz.prog os ⟨#[], #[], []⟩ with heap := (((World.holding Tryz.prog os ⟨#[], #[], []⟩).heap.modify 0 (fillAt Rows.laid_internal_strconv_uint64pow10)).modify 1 (fillAt Rows.laid_math_bits_deBruijn32tab)).modify 2 (fillAt Rows.laid_math_bits_deBruijn64tab) }
theorem laid_met (os : Os) (args : Array Value) : laidMet Tryz.prog laid3 ((laidWorld os).forCall (fun _ _ => 0) ⟨#[], args, []⟩).memory :=
  laidMet_of_run' 8 (by kernel_rfl) (by kernel_rfl)
end Go.Proofs.YtjkoppdddaknlaaGreatDoor

/- Arguments of a law, opened: a slice of integers, a histogram. -/
namespace Go.Proofs.YtjkoppdddaknlaaGreatDoor
open Go Go.ChangeShapes Go.WideShapes Go.ChangeAt Go.RowKit Go.Deep Go.Joins

section
variable {H : Type} {enc : TypeId × Value → H} {W : World} {base : Nat}

theorem bulk_all {l : List (DataW H)} (hk : Rows.uptoSmall H l = true) : Rows.uptoBulkAll l ≤ 1048576 := of_decide_eq_true hk
end
end Go.Proofs.YtjkoppdddaknlaaGreatDoor

/- Samples and keys that are arguments of a law, opened: what they hold is bounded by the bulk. -/
namespace Go.Proofs.YtjkoppdddaknlaaGreatDoor
open Go Go.ChangeShapes Go.WideShapes Go.ChangeAt Go.RowKit Go.Deep Go.Joins

theorem bulk_mem {H : Type} {d : DataW H} : ∀ {l : List (DataW H)}, d ∈ l → Rows.uptoBulk d ≤ Rows.uptoBulkAll l
  | [], h => by cases h
  | x :: l, h => by
    simp only [Rows.uptoBulkAll]
    rcases List.mem_cons.1 h with rfl | h
    · omega
    · have := bulk_mem h; omega
section
variable {H : Type} {enc : TypeId × Value → H} {W : World} {base : Nat}
set_option maxRecDepth 100000 in
theorem open_labelsB {fuel : Nat} {v : Value} {x : DataW H × List MemPlace} (h : DataW.trod enc Tryz.prog W 0 (fun _ => true) true fuel 50 [v] = some x) :
    ∃ A n c lab, v = .slice A n c ∧ Rd W 0 W.heap.size 2 A n (strs2 lab) ∧ n ≤ maxLen ∧ ∀ p ∈ lab, p.2.size ≤ Rows.uptoBulk x.1 := by
  rcases open_slice_pairs Tryz.underlying50 Tryz.underlying85 cellsP rfl rfl cellsS cellsS h with ⟨hcs, hx⟩ | ⟨a, len, cap, k, n, V0, V1, D0, D1, P0, P1, hcs, _, hl, hm, hk, hx, hall⟩
  · simp at hcs
    subst hcs
    exact ⟨none, 0, 0, [], rfl, Rd.nil, by omega, fun _ h => by cases h⟩
  · simp at hcs
    subst hcs
    simp only [if_true] at hk
    subst hk
    have each : ∀ i, i < len → ∃ s : ByteArray × ByteArray, W.cell? (a.add (i * 2)) = some (.string s.1) ∧ W.cell? (a.add (i * 2 + 1)) = some (.string s.2) ∧ D1 i = .lit (.string s.2.data.toList) := by
      intro i hi
      obtain ⟨c0, c1, t0, t1⟩ := hall i (by omega)
      obtain ⟨s0, e0, _, _⟩ := DataW.trod_string Tryz.underlying9 t0
      obtain ⟨s1, e1, x1, _⟩ := DataW.trod_string Tryz.underlying9 t1
      simp at e0 e1 x1
      exact ⟨(s0, s1), by rw [c0, e0], by rw [c1, e1], x1.1⟩
    obtain ⟨q, hq⟩ := choose_lt (α := ByteArray × ByteArray) each
    refine ⟨some a, len, k, (List.range len).map q, rfl, ⟨by rw [strs2_length]; simp, fun hp => ?_⟩, by omega, fun p hp => ?_⟩
    · have h0 := (hq 0 hp).1
      have hsp := spot_none (a := a) (by simpa [Addr.add] using h0)
      have hlt := World.block_lt_of_cell? W _ h0
      rw [add_at a hsp] at hlt
      refine ⟨a.block, a.off, by cases a; simp_all, Nat.zero_le _, hlt, fun j u hj => ?_⟩
      have hj' : j < len * 2 := by
        have := (List.getElem?_eq_some_iff.1 hj).1
        rw [strs2_length] at this; simpa using this
      have hil : j / 2 < len := by omega
      have hget : ((List.range len).map q)[j / 2]? = some (q (j / 2)) := by simp [hil]
      obtain ⟨c0, c1, _⟩ := hq (j / 2) hil
      rw [add_at a hsp] at c0 c1
      have hm2 : j % 2 < 2 := Nat.mod_lt _ (by omega)
      have g := flat_get (fun s : ByteArray × ByteArray => [Value.string s.1, .string s.2]) 2 (fun _ => rfl) _ (j / 2) (j % 2) hm2 _ hget
      rw [show j / 2 * 2 + j % 2 = j by omega] at g
      have hj2 := hj
      unfold strs2 at hj2
      rw [g] at hj2
      rcases (show j % 2 = 0 ∨ j % 2 = 1 by omega) with e | e
      · rw [e] at hj2; simp at hj2
        rw [← hj2, ← c0]; congr 2; omega
      · rw [e] at hj2; simp at hj2
        rw [← hj2, ← c1]; congr 2; omega
    · obtain ⟨i, hi, rfl⟩ := List.mem_map.1 hp
      rw [List.mem_range] at hi
      rw [hx]
      have h1 : Rows.uptoBulk (DataW.agg [D0 i, D1 i]) ≤ Rows.uptoBulkAll ((List.range len).map fun i => DataW.agg [D0 i, D1 i]) := bulk_mem (List.mem_map.2 ⟨i, List.mem_range.2 hi, rfl⟩)
      rw [(hq i hi).2.2] at h1
      simp only [Rows.uptoBulk, Rows.uptoBulkAll, Array.length_toList] at h1 ⊢
      have e : (q i).2.size = (q i).2.data.size := rfl
      omega
set_option maxRecDepth 100000 in
theorem open_samplesB {v : Value} {d : DataW H} {p0 : List MemPlace} (hv : Value.okWide Tryz.prog W .any base 22 v) (h : DataW.Trod enc Tryz.prog W 0 (fun _ => true) true 22 v d p0) :
    ∃ A n c l, v = .slice A n c ∧ SmpR W W.heap.size A n l ∧ n ≤ maxLen ∧ (∀ s ∈ l, (-9223372036854775808 ≤ s.a ∧ s.a ≤ 9223372036854775807) ∧ (-9223372036854775808 ≤ s.d ∧ s.d ≤ 9223372036854775807)) ∧ ∀ s ∈ l, ∀ p ∈ s.lab, p.2.size ≤ Rows.uptoBulk d := by
  obtain ⟨a0, len, cap, rfl⟩ := okWide_slice Tryz.underlying22 hv
  obtain ⟨fuel, hf⟩ := h
  rcases open_slice Tryz.underlying22 hf with ⟨hcs, hx⟩ | ⟨a, len', cap', m, nn, D, Pl, hcs, _, hl, hm, hmm, hx, hall⟩
  · have hcs : [Value.slice a0 len cap] = [Value.slice none 0 0] := hcs
    simp at hcs
    obtain ⟨rfl, rfl, rfl⟩ := hcs
    exact ⟨none, 0, 0, [], rfl, ⟨Rd.nil, fun _ h => by cases h⟩, by omega, (fun _ h => by cases h), fun _ h => by cases h⟩
  · have hcs : [Value.slice a0 len cap] = [Value.slice (some a) len' cap'] := hcs
    simp at hcs
    obtain ⟨rfl, rfl, rfl⟩ := hcs
    simp only [if_true] at hmm
    subst hmm
    have each : ∀ i, i < len → ∃ s : Smp, (W.cell? (a.add (i * 4)) = some (.int .i64 s.a) ∧ W.cell? (a.add (i * 4 + 1)) = some (.int .i64 s.d) ∧ W.cell? (a.add (i * 4 + 2)) = some (.slice s.A s.n s.c) ∧ W.cell? (a.add (i * 4 + 3)) = some (.bool s.f)) ∧
        (Rd W 0 W.heap.size 2 s.A s.n (strs2 s.lab) ∧ s.n ≤ maxLen) ∧ (-9223372036854775808 ≤ s.a ∧ s.a ≤ 9223372036854775807) ∧ (-9223372036854775808 ≤ s.d ∧ s.d ≤ 9223372036854775807) ∧ ∀ p ∈ s.lab, p.2.size ≤ Rows.uptoBulk (D i) := by
      intro i hi
      obtain ⟨cs', h1, h2⟩ := hall i (by omega)
      rw [cellsSmp] at h1
      obtain ⟨_, hlen, hcell⟩ := World.cells?_some h1
      obtain ⟨y0, y1, y2, y3, n4, hDP, _, g0, g1, g2, g3⟩ := trod_struct4 Tryz.underlying52 h2
      match cs', hlen with
      | [v0, v1, v2, v3], _ =>
        rw [cellsI] at g0 g1
        rw [cellsPs] at g2
        rw [cellsBo] at g3
        simp at g0 g1 g2 g3
        obtain ⟨z0, e0, _, w0⟩ := DataW.trod_int Tryz.underlying3 g0
        obtain ⟨z1, e1, _, w1⟩ := DataW.trod_int Tryz.underlying3 g1
        obtain ⟨A2, n2, c2, lab, rfl, r2, m2, t2⟩ := open_labelsB g2
        obtain ⟨b3, e3, _⟩ := DataW.trod_bool Tryz.underlying4 g3
        simp at e0 e1 e3
        subst e0; subst e1; subst e3
        have k0 := hcell 0 (by omega)
        have k1 := hcell 1 (by omega)
        have k2 := hcell 2 (by omega)
        have k3 := hcell 3 (by omega)
        rw [add_add] at k0 k1 k2 k3
        exact ⟨⟨z0, z1, A2, n2, c2, lab, b3⟩, ⟨by simpa using k0, by simpa using k1, by simpa using k2, by simpa using k3⟩, ⟨r2, m2⟩, i64_of w0, i64_of w1, fun p hp => by
          have h3 := t2 p hp
          have hD : D i = .agg [y0.1, y1.1, y2.1, y3.1] := by have := congrArg Prod.fst hDP; simpa using this
          rw [hD]
          simp only [Rows.uptoBulk, Rows.uptoBulkAll]
          omega⟩
    obtain ⟨q, hq⟩ := choose_lt each
    refine ⟨some a, len, m, (List.range len).map q, rfl, ⟨⟨by rw [smpCells_length]; simp, fun hp => ?_⟩, fun s hs => ?_⟩, by omega, fun s hs => ?_, fun s hs p hp => ?_⟩
    · have h0 := (hq 0 hp).1.1
      have hsp := spot_none (a := a) (by simpa [Addr.add] using h0)
      have hlt := World.block_lt_of_cell? W _ h0
      rw [add_at a hsp] at hlt
      refine ⟨a.block, a.off, by cases a; simp_all, Nat.zero_le _, hlt, fun j u hj => ?_⟩
      have hj' : j < len * 4 := by
        have := (List.getElem?_eq_some_iff.1 hj).1
        rw [smpCells_length] at this; simpa using this
      have hil : j / 4 < len := by omega
      have hget : ((List.range len).map q)[j / 4]? = some (q (j / 4)) := by simp [hil]
      obtain ⟨c0, c1, c2, c3⟩ := (hq (j / 4) hil).1
      rw [add_at a hsp] at c0 c1 c2 c3
      have hm2 : j % 4 < 4 := Nat.mod_lt _ (by omega)
      have g := flat_get (fun s : Smp => [Value.int .i64 s.a, .int .i64 s.d, .slice s.A s.n s.c, .bool s.f]) 4 (fun _ => rfl) _ (j / 4) (j % 4) hm2 _ hget
      rw [show j / 4 * 4 + j % 4 = j by omega] at g
      have hj2 := hj
      unfold smpCells at hj2
      rw [g] at hj2
      rcases (show j % 4 = 0 ∨ j % 4 = 1 ∨ j % 4 = 2 ∨ j % 4 = 3 by omega) with e | e | e | e
      · rw [e] at hj2; simp at hj2
        rw [← hj2, ← c0]; congr 2; omega
      · rw [e] at hj2; simp at hj2
        rw [← hj2, ← c1]; congr 2; omega
      · rw [e] at hj2; simp at hj2
        rw [← hj2, ← c2]; congr 2; omega
      · rw [e] at hj2; simp at hj2
        rw [← hj2, ← c3]; congr 2; omega
    · simp only [List.mem_map, List.mem_range] at hs
      obtain ⟨i, hi, rfl⟩ := hs
      exact (hq i hi).2.1
    · simp only [List.mem_map, List.mem_range] at hs
      obtain ⟨i, hi, rfl⟩ := hs
      exact ⟨(hq i hi).2.2.1, (hq i hi).2.2.2.1⟩
    · simp only [List.mem_map, List.mem_range] at hs
      obtain ⟨i, hi, rfl⟩ := hs
      have h1 := (hq i hi).2.2.2.2 p hp
      have h2 : Rows.uptoBulk (D i) ≤ Rows.uptoBulkAll ((List.range len).map D) := bulk_mem (List.mem_map.2 ⟨i, List.mem_range.2 hi, rfl⟩)
      obtain ⟨rfl, rfl⟩ : d = _ ∧ p0 = _ := by simpa using hx
      simp only [Rows.uptoBulk]
      omega
set_option maxRecDepth 100000 in
theorem open_keys {v : Value} {d : DataW H} {p : List MemPlace} (hv : Value.okWide Tryz.prog W .any base 23 v) (h : DataW.Trod enc Tryz.prog W 0 (fun _ => true) true 23 v d p) :
    ∃ A c l, v = .slice A l.length c ∧ Rd W 0 W.heap.size 1 A l.length (strC l) ∧ l.length ≤ c ∧ l.length ≤ maxLen := by
  obtain ⟨a0, len, cap, rfl⟩ := okWide_slice Tryz.underlying23 hv
  obtain ⟨fuel, hf⟩ := h
  rcases open_slice Tryz.underlying23 hf with ⟨hcs, hx⟩ | ⟨a, len', cap', m, nn, D, Pl, hcs, _, hl, hm, hmm, hx, hall⟩
  · have hcs : [Value.slice a0 len cap] = [Value.slice none 0 0] := hcs
    simp at hcs
    obtain ⟨rfl, rfl, rfl⟩ := hcs
    exact ⟨none, 0, [], rfl, Rd.nil, Nat.le_refl _, Nat.zero_le _⟩
  · have hcs : [Value.slice a0 len cap] = [Value.slice (some a) len' cap'] := hcs
    simp at hcs
    obtain ⟨rfl, rfl, rfl⟩ := hcs
    simp only [if_true] at hmm
    subst hmm
    have each : ∀ i, i < len → ∃ s : ByteArray, W.cell? (a.add i) = some (.string s) := by
      intro i hi
      obtain ⟨cs', h1, h2⟩ := hall i (by omega)
      rw [cellsS] at h1
      obtain ⟨_, hlen, hcell⟩ := World.cells?_some h1
      match cs', hlen with
      | [v0], _ =>
        obtain ⟨s0, e0, _, _⟩ := DataW.trod_string Tryz.underlying9 h2
        simp at e0
        have k0 := hcell 0 (by omega)
        rw [add_add] at k0
        exact ⟨s0, by simpa [e0] using k0⟩
    obtain ⟨q, hq⟩ := choose_lt each
    have hll : ((List.range len).map q).length = len := by simp
    refine ⟨some a, m, (List.range len).map q, by rw [hll], ⟨by rw [strC_length]; simp, fun hp => ?_⟩, by rw [hll]; exact hl, by rw [hll]; omega⟩
    rw [hll] at hp
    have h0 := hq 0 hp
    have hsp := spot_none (a := a) (by simpa [Addr.add] using h0)
    have hlt := World.block_lt_of_cell? W _ h0
    rw [add_at a hsp] at hlt
    refine ⟨a.block, a.off, by cases a; simp_all, Nat.zero_le _, hlt, fun j u hj => ?_⟩
    obtain ⟨z, hz, rfl⟩ := strC_get hj
    have hj' : j < len := by
      have := (List.getElem?_eq_some_iff.1 hz).1
      rwa [hll] at this
    have hc := hq j hj'
    rw [add_at a hsp] at hc
    rw [hc]
    have : ((List.range len).map q)[j]? = some (q j) := by simp [hj']
    rw [this] at hz
    rw [Option.some.inj hz]
end
end Go.Proofs.YtjkoppdddaknlaaGreatDoor
