import Derived.Test.YthfloagpmmohkaaGreatDoorCore
import Derived.Test.YthfloagpmmohkaaGreatDoorG45
import Derived.Test.YthfloagpmmohkaaGreatDoorG38
import Derived.Test.YthfloagpmmohkaaGreatDoorHedE
import Derived.Deep.SlicePairs
import Derived.Lib.SmallJoins
import Derived.SizedLaws
import Derived.ChangeMaps5
import Derived.Test.YthfloagpmmohkaaGreatDoorCards
import Derived.Test.YthfloagpmmohkaaGreatDoorTie
import Derived.Test.YthfloagpmmohkaaGreatDoorG42
import Derived.Test.YthfloagpmmohkaaGreatDoorG33
import Derived.Lay
import Derived.WalkKit
import Derived.ProofKit
import Derived.OpenShut
import Derived.Deep.DeepHandedRow
import Derived.Lib.LaidTab
/- Pairs and a text that are arguments of a law, opened. -/
namespace Go.Proofs.YthfloagpmmohkaaGreatDoor
open Go Go.ChangeShapes Go.WideShapes Go.ChangeAt Go.RowKit Go.Deep Go.Joins

theorem cellsPr2 : Tryz.prog.cellsOf 69 = 2 := by kernel_rfl
theorem cellsStr : Tryz.prog.cellsOf 9 = 1 := by kernel_rfl
theorem weightsAll_mem {H : Type} {P : Program} {e : TypeId} {x : Nat} : ∀ {l : List (DataW H)} {d : DataW H}, d ∈ l → x ∈ d.weights P e → x ∈ DataW.weightsAll P e l
  | [], d, h, _ => by cases h
  | y :: l, d, h, hx => by
    simp only [DataW.weightsAll, List.mem_append]
    rcases List.mem_cons.1 h with rfl | h
    · exact .inl hx
    · exact .inr (weightsAll_mem h hx)
section
variable {H : Type} {enc : TypeId × Value → H} {W : World} {base : Nat}
set_option maxRecDepth 100000 in
theorem open_pairs {v : Value} {d : DataW H} {p0 : List MemPlace} (hv : Value.okWide Tryz.prog W .any base 22 v) (h : DataW.Trod enc Tryz.prog W 0 (fun _ => true) true 22 v d p0) (hs : ∀ x ∈ d.weights Tryz.prog 22, x ≤ reachBytes) :
    ∃ A n c h, v = .slice A n c ∧ Rd W 0 W.heap.size 2 A n (prC h) ∧ n ≤ 140737488355328 ∧ PrBd h := by
  obtain ⟨a0, len0, cap0, rfl⟩ := okWide_slice Tryz.underlying22 hv
  obtain ⟨fuel, hf⟩ := h
  rcases open_slice_pairs Tryz.underlying22 Tryz.underlying69 cellsPr2 rfl rfl cellsStr cellsStr hf with ⟨hcs, hx⟩ | ⟨a, len, cap, k, n, V0, V1, D0, D1, P0, P1, hcs, _, hl, hm, hk, hx, hall⟩
  · have hcs : [Value.slice a0 len0 cap0] = [Value.slice none 0 0] := hcs
    simp at hcs
    obtain ⟨rfl, rfl, rfl⟩ := hcs
    exact ⟨none, 0, 0, [], rfl, Rd.nil, by omega, fun _ h => by cases h⟩
  · have hcs : [Value.slice a0 len0 cap0] = [Value.slice (some a) len cap] := hcs
    simp at hcs
    obtain ⟨rfl, rfl, rfl⟩ := hcs
    simp only [if_true] at hk
    subst hk
    obtain ⟨rfl, rfl⟩ : d = _ ∧ p0 = _ := by simpa using hx
    have hwn := hs _ (by simp only [DataW.weights, Tryz.underlying22]; exact List.mem_cons_self ..)
    have hbp : Tryz.prog.bytesOf 69 = 32 := by kernel_rfl
    rw [hbp] at hwn
    simp only [List.length_map, List.length_range] at hwn
    unfold reachBytes at hwn
    have each : ∀ i, i < len0 → ∃ s : Pr, W.cell? (a.add (i * 2)) = some (tx s.1) ∧ W.cell? (a.add (i * 2 + 1)) = some (tx s.2) ∧ s.1.length ≤ 140737488355328 ∧ s.2.length ≤ 140737488355328 := by
      intro i hi
      obtain ⟨c0, c1, t0, t1⟩ := hall i (by omega)
      obtain ⟨s0, e0, x0, _⟩ := DataW.trod_string Tryz.underlying9 t0
      obtain ⟨s1, e1, x1, _⟩ := DataW.trod_string Tryz.underlying9 t1
      simp at e0 e1 x0 x1
      have hwe : ∀ x, x ∈ (DataW.agg [D0 i, D1 i] : DataW H).weights Tryz.prog 69 → x ≤ reachBytes := fun x hx => hs x (by
        simp only [DataW.weights, Tryz.underlying22]
        exact List.mem_cons_of_mem _ (List.mem_append_left _ (weightsAll_mem (List.mem_map.2 ⟨i, List.mem_range.2 (by omega), rfl⟩) hx)))
      rw [x0.1, x1.1] at hwe
      have w0 := hwe s0.data.toList.length (by unfold DataW.weights; rw [Tryz.underlying69]; simp [DataW.weightsEach, DataW.weights])
      have w1 := hwe s1.data.toList.length (by unfold DataW.weights; rw [Tryz.underlying69]; simp [DataW.weightsEach, DataW.weights])
      unfold reachBytes at w0 w1
      refine ⟨(s0.data.toList, s1.data.toList), ?_, ?_, by show s0.data.toList.length ≤ _; omega, by show s1.data.toList.length ≤ _; omega⟩
      · rw [c0, e0]
      · rw [c1, e1]
    obtain ⟨q, hq⟩ := choose_lt (α := Pr) each
    refine ⟨some a, len0, k, (List.range len0).map q, rfl, ⟨by rw [prC_length]; simp, fun hp => ?_⟩, by omega, fun p hp => ?_⟩
    · have h0 := (hq 0 hp).1
      have hsp := spot_none (a := a) (by simpa [Addr.add] using h0)
      have hlt := World.block_lt_of_cell? W _ h0
      rw [add_at a hsp] at hlt
      refine ⟨a.block, a.off, by cases a; simp_all, Nat.zero_le _, hlt, fun j u hj => ?_⟩
      have hj' : j < len0 * 2 := by
        have := (List.getElem?_eq_some_iff.1 hj).1
        rw [prC_length] at this; simpa using this
      have hil : j / 2 < len0 := by omega
      have hget : ((List.range len0).map q)[j / 2]? = some (q (j / 2)) := by simp [hil]
      obtain ⟨c0, c1, _⟩ := hq (j / 2) hil
      rw [add_at a hsp] at c0 c1
      have hm2 : j % 2 < 2 := Nat.mod_lt _ (by omega)
      have g := flat_get (fun s : Pr => [tx s.1, tx s.2]) 2 (fun _ => rfl) _ (j / 2) (j % 2) hm2 _ hget
      rw [show j / 2 * 2 + j % 2 = j by omega] at g
      have hj2 := hj
      unfold prC at hj2
      rw [g] at hj2
      rcases (show j % 2 = 0 ∨ j % 2 = 1 by omega) with e | e
      · rw [e] at hj2; simp at hj2
        rw [← hj2, ← c0]; congr 2; omega
      · rw [e] at hj2; simp at hj2
        rw [← hj2, ← c1]; congr 2; omega
    · obtain ⟨i, hi, rfl⟩ := List.mem_map.1 hp
      rw [List.mem_range] at hi
      exact (hq i hi).2.2
set_option maxRecDepth 100000 in
theorem open_str {v : Value} {d : DataW H} {p0 : List MemPlace} (hv : Value.okWide Tryz.prog W .any base 9 v) (h : DataW.Trod enc Tryz.prog W 0 (fun _ => true) true 9 v d p0) (hs : ∀ x ∈ d.weights Tryz.prog 9, x ≤ reachBytes) : ∃ l : List UInt8, v = tx l ∧ l.length ≤ 140737488355328 := by
  obtain ⟨s, rfl⟩ := okWide_string Tryz.underlying9 hv
  obtain ⟨fuel, hf⟩ := h
  obtain ⟨s', e, x, _⟩ := DataW.trod_string Tryz.underlying9 hf
  have e : [Value.string s] = [.string s'] := e
  simp at e
  subst e
  obtain ⟨rfl, _⟩ : d = _ ∧ p0 = _ := by simpa using x
  have w0 := hs s.data.toList.length (by simp [DataW.weights])
  unfold reachBytes at w0
  exact ⟨s.data.toList, rfl, by omega⟩
end
end Go.Proofs.YthfloagpmmohkaaGreatDoor

/- What every law behind the door shares: the table that its row lists, a world for the witness, and the card out of the row's statement. -/
namespace Go.Proofs.YthfloagpmmohkaaGreatDoor
open Go Go.ChangeShapes Go.WideShapes Go.ChangeAt Go.RowKit

theorem gPow : Tryz.prog.globalNamed "internal/strconv.uint64pow10" = some 0 := by kernel_rfl
theorem gPowType : (Tryz.prog.globals[0]?).map (·.type) = some 154 := by kernel_rfl
theorem cellsPow : Tryz.prog.cellsOf 154 = 20 := by kernel_rfl
theorem cellsU : Tryz.prog.cellsOf 135 = 1 := by kernel_rfl

/-- the list of the rows of this seat -/
abbrev laid3 : List (String × DataW Unit) := [("math/bits.deBruijn32tab", Rows.laid_math_bits_deBruijn32tab), ("math/bits.deBruijn64tab", Rows.laid_math_bits_deBruijn64tab), ("internal/strconv.uint64pow10", Rows.laid_internal_strconv_uint64pow10), ("unicode/utf8.acceptRanges", Rows.laid_unicode_utf8_acceptRanges), ("unicode/utf8.first", Rows.laid_unicode_utf8_first)]

theorem table {W : World} (h0 : laidMetH Tryz.prog laid3 W) : Tab W.heap.size W := by
  have h : laidMet Tryz.prog laid3 W := h0
  refine Lib.tabBelow_of_tabIs ?_
  obtain ⟨ps, ⟨g1, t1, cs1, fu1, p1, q1, _, _, _, _, ⟨g2, t2, cs2, fu2, p2, q2, _, _, _, _, ⟨g', t', cs, fuel, p, q, hg', ht', hvar, hd, _, _⟩, _⟩, _⟩, _⟩ := h
  obtain rfl := Option.some.inj (gPow.symm.trans hg')
  obtain rfl := Option.some.inj (gPowType.symm.trans ht')
  unfold Lib.TabIs
  rw [hvar, ← Lib.cells_of_tab Tryz.underlying154 Tryz.underlying135 cellsU cellsPow hd]

/-- A WORLD FOR THE WITNESS: the settled one, the listed variables holding what their initialisers lay. -/
noncomputable def laidWorld (os : Os) : World := World.laidAll Tryz.prog os laid3
theorem laid_met (os : Os) (args : Array Value) : laidMet Tryz.prog laid3 ((laidWorld os).forCall (fun _ _ => 0) ⟨#[], args, []⟩).memory :=
  laidMet_laidAll args (by kernel_rfl) (by kernel_rfl)
end Go.Proofs.YthfloagpmmohkaaGreatDoor
