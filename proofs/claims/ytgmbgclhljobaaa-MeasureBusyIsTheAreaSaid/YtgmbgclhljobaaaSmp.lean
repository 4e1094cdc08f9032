/- Words for lists of samples in memory; a list of samples that is an argument of a law, opened. -/
import Derived.Test.YtgmbgclhljobaaaOpenZ
namespace Go.Proofs.Ytgmbgclhljobaaa
open Go Go.ChangeShapes Go.WideShapes Go.ChangeAt Go.RowKit Go.Deep Go.Joins

/-- elements of k cells each, laid one behind the other -/
theorem flat_get {α : Type} (f : α → List Value) (k : Nat) (hk : ∀ a, (f a).length = k) : ∀ (l : List α) (i j : Nat) (_ : j < k) (a : α) (_ : l[i]? = some a), (l.flatMap f)[i * k + j]? = (f a)[j]?
  | [], i, j, _, a, h => by simp at h
  | x :: l, 0, j, hj, a, h => by
    simp at h; subst h
    rw [List.flatMap_cons, List.getElem?_append_left (by rw [hk]; omega)]; simp
  | x :: l, i + 1, j, hj, a, h => by
    have := flat_get f k hk l i j hj a (by simpa using h)
    rw [List.flatMap_cons, List.getElem?_append_right (by rw [hk, Nat.add_mul]; omega), hk, ← this]
    congr 1
    rw [Nat.add_mul]; omega
theorem flat_length {α : Type} (f : α → List Value) (k : Nat) (hk : ∀ a, (f a).length = k) (l : List α) : (l.flatMap f).length = l.length * k := by
  induction l with
  | nil => simp
  | cons x l ih => rw [List.flatMap_cons, List.length_append, ih, hk, List.length_cons, Nat.add_mul]; omega

/-- pairs of texts as cells -/
def strs2 (l : List (ByteArray × ByteArray)) : List Value := l.flatMap fun s => [.string s.1, .string s.2]
theorem strs2_length (l : List (ByteArray × ByteArray)) : (strs2 l).length = l.length * 2 := flat_length _ 2 (fun _ => rfl) l

/-- a sample: when it began, how long it took, its labels, whether it failed -/
structure Smp where
  a : Int
  d : Int
  A : Option Addr
  n : Nat
  c : Nat
  lab : List (ByteArray × ByteArray)
  f : Bool
instance : Inhabited Smp := ⟨⟨0, 0, none, 0, 0, [], false⟩⟩
def smpCells (l : List Smp) : List Value := l.flatMap fun s => [.int .i64 s.a, .int .i64 s.d, .slice s.A s.n s.c, .bool s.f]
theorem smpCells_length (l : List Smp) : (smpCells l).length = l.length * 4 := flat_length _ 4 (fun _ => rfl) l
/-- the slice reads as these samples -/
def SmpR (w : World) (B : Nat) (A : Option Addr) (n : Nat) (l : List Smp) : Prop :=
  Rd w 0 B 4 A n (smpCells l) ∧ ∀ s ∈ l, Rd w 0 B 2 s.A s.n (strs2 s.lab) ∧ s.n ≤ maxLen
section
variable {w w' : World} {B B' n : Nat} {A : Option Addr} {l : List Smp}
theorem SmpR.len (h : SmpR w B A n l) : l.length = n := by have := h.1.1; rw [smpCells_length] at this; omega
theorem SmpR.below (h : SmpR w B A n l) (hb : Below B' w w') (hB : B ≤ B') : SmpR w' B A n l := ⟨h.1.below hb hB, fun s hs => ⟨(h.2 s hs).1.below hb hB, (h.2 s hs).2⟩⟩
theorem SmpR.more (h : SmpR w B A n l) (hB : B ≤ B') : SmpR w B' A n l := ⟨h.1.more (Nat.le_refl _) hB, fun s hs => ⟨(h.2 s hs).1.more (Nat.le_refl _) hB, (h.2 s hs).2⟩⟩
theorem SmpR.old (h : SmpR w w.heap.size A n l) (hb : Below w.heap.size w w') : SmpR w' w'.heap.size A n l := (h.below hb (Nat.le_refl _)).more hb.size
theorem SmpR.at {i : Nat} (h : SmpR w B A n l) (hi : i < n) : ∃ b o s, A = some ⟨b, o, none⟩ ∧ b < B ∧ l[i]? = some s ∧ w.cell? ⟨b, o + i * 4, none⟩ = some (.int .i64 s.a) ∧ w.cell? ⟨b, o + i * 4 + 1, none⟩ = some (.int .i64 s.d) ∧
    w.cell? ⟨b, o + i * 4 + 2, none⟩ = some (.slice s.A s.n s.c) ∧ w.cell? ⟨b, o + i * 4 + 3, none⟩ = some (.bool s.f) := by
  obtain ⟨b, o, e, _, hb, hc⟩ := h.1.2 (by omega)
  have hl := h.len
  obtain ⟨s, hs⟩ : ∃ s, l[i]? = some s := ⟨l[i]'(by omega), List.getElem?_eq_getElem (by omega)⟩
  have g : ∀ j, j < 4 → (smpCells l)[i * 4 + j]? = _ := fun j hj => flat_get _ 4 (fun _ => rfl) l i j hj s hs
  refine ⟨b, o, s, e, hb, hs, ?_, ?_, ?_, ?_⟩
  · have := hc (i * 4 + 0) _ (g 0 (by omega)); simpa using this
  · have := hc (i * 4 + 1) _ (g 1 (by omega)); simpa [Nat.add_assoc] using this
  · have := hc (i * 4 + 2) _ (g 2 (by omega)); simpa [Nat.add_assoc] using this
  · have := hc (i * 4 + 3) _ (g 3 (by omega)); simpa [Nat.add_assoc] using this
theorem rd_strs {i : Nat} {lab : List (ByteArray × ByteArray)} (h : Rd w 0 B 2 A n (strs2 lab)) (hi : i < n) : ∃ b o x y, A = some ⟨b, o, none⟩ ∧ b < B ∧ lab[i]? = some (x, y) ∧ w.cell? ⟨b, o + i * 2, none⟩ = some (.string x) ∧ w.cell? ⟨b, o + i * 2 + 1, none⟩ = some (.string y) := by
  obtain ⟨b, o, e, _, hb, hc⟩ := h.2 (by omega)
  have hl : lab.length = n := by have := h.1; rw [strs2_length] at this; omega
  obtain ⟨⟨x, y⟩, hs⟩ : ∃ s, lab[i]? = some s := ⟨lab[i]'(by omega), List.getElem?_eq_getElem (by omega)⟩
  have g : ∀ j, j < 2 → (strs2 lab)[i * 2 + j]? = _ := fun j hj => flat_get _ 2 (fun _ => rfl) lab i j hj _ hs
  refine ⟨b, o, x, y, e, hb, hs, ?_, ?_⟩
  · have := hc (i * 2 + 0) _ (g 0 (by omega)); simpa using this
  · have := hc (i * 2 + 1) _ (g 1 (by omega)); simpa [Nat.add_assoc] using this
end

theorem cellsS : Try.prog.cellsOf 9 = 1 := by kernel_rfl
theorem cellsP : Try.prog.cellsOf 78 = 2 := by kernel_rfl
theorem cellsSmp : Try.prog.cellsOf 45 = 4 := by kernel_rfl
theorem cellsPs : Try.prog.cellsOf 43 = 1 := by kernel_rfl
theorem cellsBo : Try.prog.cellsOf 4 = 1 := by kernel_rfl
section
variable {H : Type} {enc : TypeId × Value → H} {W : World} {base : Nat}
set_option maxRecDepth 100000 in
theorem open_labels {fuel : Nat} {v : Value} {x : DataW H × List MemPlace} (h : DataW.trod enc Try.prog W 0 (fun _ => true) true fuel 43 [v] = some x) :
    ∃ A n c lab, v = .slice A n c ∧ Rd W 0 W.heap.size 2 A n (strs2 lab) ∧ n ≤ maxLen := by
  rcases open_slice_pairs Try.underlying43 Try.underlying78 cellsP rfl rfl cellsS cellsS h with ⟨hcs, hx⟩ | ⟨a, len, cap, k, n, V0, V1, D0, D1, P0, P1, hcs, _, hl, hm, hk, hx, hall⟩
  · simp at hcs
    subst hcs
    exact ⟨none, 0, 0, [], rfl, Rd.nil, by omega⟩
  · simp at hcs
    subst hcs
    simp only [if_true] at hk
    subst hk
    have each : ∀ i, i < len → ∃ s : ByteArray × ByteArray, W.cell? (a.add (i * 2)) = some (.string s.1) ∧ W.cell? (a.add (i * 2 + 1)) = some (.string s.2) := by
      intro i hi
      obtain ⟨c0, c1, t0, t1⟩ := hall i (by omega)
      obtain ⟨s0, e0, _, _⟩ := DataW.trod_string Try.underlying9 t0
      obtain ⟨s1, e1, _, _⟩ := DataW.trod_string Try.underlying9 t1
      simp at e0 e1
      exact ⟨(s0, s1), by rw [c0, e0], by rw [c1, e1]⟩
    obtain ⟨q, hq⟩ := choose_lt (α := ByteArray × ByteArray) each
    refine ⟨some a, len, k, (List.range len).map q, rfl, ⟨by rw [strs2_length]; simp, fun hp => ?_⟩, by omega⟩
    have h0 := (hq 0 hp).1
    have hsp := spot_none (a := a) (by simpa [Addr.add] using h0)
    have hlt := World.block_lt_of_cell? W _ h0
    rw [add_at a hsp] at hlt
    refine ⟨a.block, a.off, by cases a; simp_all, Nat.zero_le _, hlt, fun j u hj => ?_⟩
    have hj' : j < len * 2 := by
      have := (List.getElem?_eq_some_iff.1 hj).1
      rw [strs2_length] at this; simpa using this
    have hil : j / 2 < len := by omega
    have hget : ((List.range len).map q)[j / 2]? = some (q (j / 2)) := by simp [hil]
    obtain ⟨c0, c1⟩ := hq (j / 2) hil
    rw [add_at a hsp] at c0 c1
    have hm2 : j % 2 < 2 := Nat.mod_lt _ (by omega)
    have g := flat_get (fun s : ByteArray × ByteArray => [Value.string s.1, .string s.2]) 2 (fun _ => rfl) _ (j / 2) (j % 2) hm2 _ hget
    rw [show j / 2 * 2 + j % 2 = j by omega] at g
    have hj2 := hj
    unfold strs2 at hj2
    rw [g] at hj2
    rcases (show j % 2 = 0 ∨ j % 2 = 1 by omega) with e | e
    · rw [e] at hj2; simp at hj2
      rw [← hj2, ← c0]; congr 2; omega
    · rw [e] at hj2; simp at hj2
      rw [← hj2, ← c1]; congr 2; omega

set_option maxRecDepth 100000 in
theorem open_samples {v : Value} {d : DataW H} {p : List MemPlace} (hv : Value.okWide Try.prog W .any base 37 v) (h : DataW.Trod enc Try.prog W 0 (fun _ => true) true 37 v d p) :
    ∃ A n c l, v = .slice A n c ∧ SmpR W W.heap.size A n l ∧ n ≤ maxLen ∧ (∀ s ∈ l, (-9223372036854775808 ≤ s.a ∧ s.a ≤ 9223372036854775807) ∧ (-9223372036854775808 ≤ s.d ∧ s.d ≤ 9223372036854775807)) := by
  obtain ⟨a0, len, cap, rfl⟩ := okWide_slice Try.underlying37 hv
  obtain ⟨fuel, hf⟩ := h
  rcases open_slice Try.underlying37 hf with ⟨hcs, hx⟩ | ⟨a, len', cap', m, nn, D, Pl, hcs, _, hl, hm, hmm, hx, hall⟩
  · have hcs : [Value.slice a0 len cap] = [Value.slice none 0 0] := hcs
    simp at hcs
    obtain ⟨rfl, rfl, rfl⟩ := hcs
    exact ⟨none, 0, 0, [], rfl, ⟨Rd.nil, fun _ h => by cases h⟩, by omega, fun _ h => by cases h⟩
  · have hcs : [Value.slice a0 len cap] = [Value.slice (some a) len' cap'] := hcs
    simp at hcs
    obtain ⟨rfl, rfl, rfl⟩ := hcs
    simp only [if_true] at hmm
    subst hmm
    have each : ∀ i, i < len → ∃ s : Smp, (W.cell? (a.add (i * 4)) = some (.int .i64 s.a) ∧ W.cell? (a.add (i * 4 + 1)) = some (.int .i64 s.d) ∧ W.cell? (a.add (i * 4 + 2)) = some (.slice s.A s.n s.c) ∧ W.cell? (a.add (i * 4 + 3)) = some (.bool s.f)) ∧
        (Rd W 0 W.heap.size 2 s.A s.n (strs2 s.lab) ∧ s.n ≤ maxLen) ∧ (-9223372036854775808 ≤ s.a ∧ s.a ≤ 9223372036854775807) ∧ (-9223372036854775808 ≤ s.d ∧ s.d ≤ 9223372036854775807) := by
      intro i hi
      obtain ⟨cs', h1, h2⟩ := hall i (by omega)
      rw [cellsSmp] at h1
      obtain ⟨_, hlen, hcell⟩ := World.cells?_some h1
      obtain ⟨y0, y1, y2, y3, n4, _, _, g0, g1, g2, g3⟩ := trod_struct4 Try.underlying45 h2
      match cs', hlen with
      | [v0, v1, v2, v3], _ =>
        rw [cellsI] at g0 g1
        rw [cellsPs] at g2
        rw [cellsBo] at g3
        simp at g0 g1 g2 g3
        obtain ⟨z0, e0, _, w0⟩ := DataW.trod_int Try.underlying3 g0
        obtain ⟨z1, e1, _, w1⟩ := DataW.trod_int Try.underlying3 g1
        obtain ⟨A2, n2, c2, lab, rfl, r2, m2⟩ := open_labels g2
        obtain ⟨b3, e3, _⟩ := DataW.trod_bool Try.underlying4 g3
        simp at e0 e1 e3
        subst e0; subst e1; subst e3
        have k0 := hcell 0 (by omega)
        have k1 := hcell 1 (by omega)
        have k2 := hcell 2 (by omega)
        have k3 := hcell 3 (by omega)
        rw [add_add] at k0 k1 k2 k3
        exact ⟨⟨z0, z1, A2, n2, c2, lab, b3⟩, ⟨by simpa using k0, by simpa using k1, by simpa using k2, by simpa using k3⟩, ⟨r2, m2⟩, i64_of w0, i64_of w1⟩
    obtain ⟨q, hq⟩ := choose_lt each
    refine ⟨some a, len, m, (List.range len).map q, rfl, ⟨⟨by rw [smpCells_length]; simp, fun hp => ?_⟩, fun s hs => ?_⟩, by omega, fun s hs => ?_⟩
    · have h0 := (hq 0 hp).1.1
      have hsp := spot_none (a := a) (by simpa [Addr.add] using h0)
      have hlt := World.block_lt_of_cell? W _ h0
      rw [add_at a hsp] at hlt
      refine ⟨a.block, a.off, by cases a; simp_all, Nat.zero_le _, hlt, fun j u hj => ?_⟩
      have hj' : j < len * 4 := by
        have := (List.getElem?_eq_some_iff.1 hj).1
        rw [smpCells_length] at this; simpa using this
      have hil : j / 4 < len := by omega
      have hget : ((List.range len).map q)[j / 4]? = some (q (j / 4)) := by simp [hil]
      obtain ⟨c0, c1, c2, c3⟩ := (hq (j / 4) hil).1
      rw [add_at a hsp] at c0 c1 c2 c3
      have hm2 : j % 4 < 4 := Nat.mod_lt _ (by omega)
      have g := flat_get (fun s : Smp => [Value.int .i64 s.a, .int .i64 s.d, .slice s.A s.n s.c, .bool s.f]) 4 (fun _ => rfl) _ (j / 4) (j % 4) hm2 _ hget
      rw [show j / 4 * 4 + j % 4 = j by omega] at g
      have hj2 := hj
      unfold smpCells at hj2
      rw [g] at hj2
      rcases (show j % 4 = 0 ∨ j % 4 = 1 ∨ j % 4 = 2 ∨ j % 4 = 3 by omega) with e | e | e | e
      · rw [e] at hj2; simp at hj2
        rw [← hj2, ← c0]; congr 2; omega
      · rw [e] at hj2; simp at hj2
        rw [← hj2, ← c1]; congr 2; omega
      · rw [e] at hj2; simp at hj2
        rw [← hj2, ← c2]; congr 2; omega
      · rw [e] at hj2; simp at hj2
        rw [← hj2, ← c3]; congr 2; omega
    · simp only [List.mem_map, List.mem_range] at hs
      obtain ⟨i, hi, rfl⟩ := hs
      exact (hq i hi).2.1
    · simp only [List.mem_map, List.mem_range] at hs
      obtain ⟨i, hi, rfl⟩ := hs
      exact (hq i hi).2.2
end
end Go.Proofs.Ytgmbgclhljobaaa
