/- Words for lists of histograms in memory; a series that is an argument of a law, opened. -/
import Derived.Test.YtgmbgclhljobaaaDoorOpen
import Derived.Test.YtgmbgclhljobaaaDoorSt
import Derived.Test.YtgmbgclhljobaaaDoorFlat
namespace Go.Proofs.YtgmbgclhljobaaaDoor
open Go Go.ChangeShapes Go.WideShapes Go.ChangeAt Go.RowKit Go.Deep Go.Joins

/-- a histogram in memory -/
structure Hg where
  b : Int
  A : Option Addr
  c : Nat
  cs : List (Int × Int)
instance : Inhabited Hg := ⟨⟨0, none, 0, []⟩⟩
def hgCells (l : List Hg) : List Value := l.flatMap fun h => [.int .i64 h.b, .slice h.A h.cs.length h.c]
theorem hgCells_length (l : List Hg) : (hgCells l).length = l.length * 2 := flat_length _ 2 (fun _ => rfl) l
theorem hgCells_snoc (l : List Hg) (h : Hg) : hgCells (l ++ [h]) = hgCells l ++ [.int .i64 h.b, .slice h.A h.cs.length h.c] := by simp [hgCells]
/-- what is seen of them -/
def absL (l : List Hg) : List (Int × List (Int × Int)) := l.map fun h => (h.b, h.cs)
/-- the slice reads as these histograms -/
def HgR (w : World) (B : Nat) (A : Option Addr) (n : Nat) (l : List Hg) : Prop :=
  Rd w 0 B 2 A n (hgCells l) ∧ ∀ h ∈ l, Rd w 0 B 2 h.A h.cs.length (cells2 h.cs)
section
variable {w w' : World} {B B' n : Nat} {A : Option Addr} {l : List Hg}
theorem HgR.len (h : HgR w B A n l) : l.length = n := by have := h.1.1; rw [hgCells_length] at this; omega
theorem HgR.below (h : HgR w B A n l) (hb : Below B' w w') (hB : B ≤ B') : HgR w' B A n l := ⟨h.1.below hb hB, fun s hs => (h.2 s hs).below hb hB⟩
theorem HgR.more (h : HgR w B A n l) (hB : B ≤ B') : HgR w B' A n l := ⟨h.1.more (Nat.le_refl _) hB, fun s hs => (h.2 s hs).more (Nat.le_refl _) hB⟩
theorem HgR.old (h : HgR w w.heap.size A n l) (hb : Below w.heap.size w w') : HgR w' w'.heap.size A n l := (h.below hb (Nat.le_refl _)).more hb.size
theorem HgR.nil : HgR w B none 0 [] := ⟨Rd.nil, fun _ h => by cases h⟩
theorem HgR.at {i : Nat} (h : HgR w B A n l) (hi : i < n) : ∃ b o s, A = some ⟨b, o, none⟩ ∧ b < B ∧ l[i]? = some s ∧ w.cell? ⟨b, o + i * 2, none⟩ = some (.int .i64 s.b) ∧ w.cell? ⟨b, o + i * 2 + 1, none⟩ = some (.slice s.A s.cs.length s.c) ∧
    Rd w 0 B 2 s.A s.cs.length (cells2 s.cs) := by
  obtain ⟨b, o, e, _, hb, hc⟩ := h.1.2 (by omega)
  have hl := h.len
  obtain ⟨s, hs⟩ : ∃ s, l[i]? = some s := ⟨l[i]'(by omega), List.getElem?_eq_getElem (by omega)⟩
  have g : ∀ j, j < 2 → (hgCells l)[i * 2 + j]? = _ := fun j hj => flat_get _ 2 (fun _ => rfl) l i j hj s hs
  refine ⟨b, o, s, e, hb, hs, ?_, ?_, h.2 s (List.mem_of_getElem? hs)⟩
  · have := hc (i * 2 + 0) _ (g 0 (by omega)); simpa using this
  · have := hc (i * 2 + 1) _ (g 1 (by omega)); simpa [Nat.add_assoc] using this
/-- a part of it -/
theorem hgCells_drop (l : List Hg) (k : Nat) : hgCells (l.drop k) = (hgCells l).drop (k * 2) := by
  induction l generalizing k with
  | nil => simp [hgCells]
  | cons h l ih =>
    cases k with
    | zero => simp
    | succ k =>
      rw [List.drop_succ_cons, ih, show (k + 1) * 2 = k * 2 + 1 + 1 by omega]
      simp [hgCells]
theorem hgCells_take (l : List Hg) (k : Nat) : hgCells (l.take k) = (hgCells l).take (k * 2) := by
  induction l generalizing k with
  | nil => simp [hgCells]
  | cons h l ih =>
    cases k with
    | zero => simp [hgCells]
    | succ k =>
      rw [List.take_succ_cons, show (k + 1) * 2 = k * 2 + 1 + 1 by omega]
      have := ih k
      simp only [hgCells, List.flatMap_cons] at *
      simp [this]
theorem HgR.part {b o i j : Nat} (h : HgR w B (some ⟨b, o, none⟩) n l) (hij : i ≤ j) (hj : j ≤ n) : HgR w B (some ⟨b, o + i * 2, none⟩) (j - i) ((l.take j).drop i) := by
  have hl := h.len
  refine ⟨⟨by rw [hgCells_length]; simp; omega, fun hp => ?_⟩, fun x hx => h.2 x (List.mem_of_mem_take (List.mem_of_mem_drop hx))⟩
  obtain ⟨b', o', e, h1, h2, h3⟩ := h.1.2 (by omega)
  simp only [Option.some.injEq, Addr.mk.injEq, and_true] at e
  obtain ⟨rfl, rfl⟩ := e
  refine ⟨b, o + i * 2, rfl, h1, h2, fun q u hu => ?_⟩
  rw [hgCells_drop, hgCells_take, List.getElem?_drop] at hu
  have hu' : (hgCells l)[i * 2 + q]? = some u := by
    rw [List.getElem?_take] at hu
    split at hu
    · exact hu
    · cases hu
  have := h3 _ _ hu'
  rwa [← Nat.add_assoc] at this
end

/-- a slice reads as cells in a block that fits -/
def RdP (w : World) (P : Nat → Prop) (k : Nat) (A : Option Addr) (n : Nat) (xs : List Value) : Prop :=
  xs.length = n * k ∧ (0 < n → ∃ b o, A = some ⟨b, o, none⟩ ∧ P b ∧ ∀ j u, xs[j]? = some u → w.cell? ⟨b, o + j, none⟩ = some u)
section
variable {w w' : World} {P P' : Nat → Prop} {k n : Nat} {A : Option Addr} {xs : List Value}
theorem RdP.of {L B : Nat} (h : Rd w L B k A n xs) (hP : ∀ b, L ≤ b → b < B → P b) : RdP w P k A n xs :=
  ⟨h.1, fun hn => by obtain ⟨b, o, e, h1, h2, h3⟩ := h.2 hn; exact ⟨b, o, e, hP b h1 h2, h3⟩⟩
theorem RdP.rd {L B : Nat} (h : RdP w P k A n xs) (hP : ∀ b, P b → L ≤ b ∧ b < B) : Rd w L B k A n xs :=
  ⟨h.1, fun hn => by obtain ⟨b, o, e, h1, h2⟩ := h.2 hn; exact ⟨b, o, e, (hP b h1).1, (hP b h1).2, h2⟩⟩
theorem RdP.keep (h : RdP w P k A n xs) (hk : ∀ p : Addr, P p.block → w'.cell? p = w.cell? p) (hP : ∀ b, P b → P' b) : RdP w' P' k A n xs :=
  ⟨h.1, fun hn => by obtain ⟨b, o, e, h1, h2⟩ := h.2 hn; exact ⟨b, o, e, hP b h1, fun j u hu => (hk ⟨b, o + j, none⟩ h1).trans (h2 j u hu)⟩⟩
end

/-- a row of histograms of the call's own: B0: where the call began; its boxes lie below base -/
def HgOwn (w : World) (B0 base : Nat) (v : Value) (l : List Hg) : Prop :=
  w.ownsRow base 24 2 v l.length (hgCells l) ∧ ∀ h ∈ l, RdP w (fun b => (b < B0 ∨ base ≤ b) ∧ b < w.heap.size ∧ some b ≠ v.ownBlock) 2 h.A h.cs.length (cells2 h.cs)
section
variable {w w' : World} {B0 base : Nat} {v : Value} {l : List Hg}
theorem HgOwn.nil : HgOwn w B0 base (.slice none 0 0) [] := ⟨⟨by simp [hgCells], .inl ⟨rfl, rfl⟩⟩, fun _ h => by cases h⟩
theorem HgOwn.fr {may : Nat → Prop} (h : HgOwn w B0 base v l) (hf : Fr may w w') (hm : ∀ i, i < w.heap.size → may i → B0 ≤ i ∧ i < base) : HgOwn w' B0 base v l := by
  refine ⟨ownsRow_fr h.1 hf (fun i hi hx => ?_), fun x hx => (h.2 x hx).keep (fun p hp => hf.cell hp.2.1 (fun hx => ?_)) (fun b hb => ⟨hb.1, by have := hf.size; omega, hb.2.2⟩)⟩
  · have h1 := ownsRow_block h.1 hi
    have := hm i h1.2 hx
    omega
  · have := hm _ hp.2.1 hx
    omega
theorem HgOwn.call (h : HgOwn w B0 base v l) (hb : Below w.heap.size w w') : HgOwn w' B0 base v l := h.fr (Fr.of_below hb) (fun i h1 h2 => by omega)
theorem HgOwn.rd (h : HgOwn w B0 base v l) : ∃ A c, v = .slice A l.length c ∧ HgR w w.heap.size A l.length l := by
  obtain ⟨A, cap, rfl, _⟩ := ownsRow_shape h.1
  exact ⟨A, cap, rfl, (Rd.of_own h.1).more (Nat.zero_le _) (Nat.le_refl _), fun x hx => (h.2 x hx).rd (fun b hb => ⟨Nat.zero_le _, hb.2.1⟩)⟩
theorem HgOwn.app {x : Hg} {g cap : Nat} (h : HgOwn w B0 base v l) (hx : RdP w (fun b => (b < B0 ∨ base ≤ b) ∧ b < w.heap.size ∧ some b ≠ v.ownBlock) 2 x.A x.cs.length (cells2 x.cs))
    (hown : w'.ownsRow base 24 2 (.slice (some ⟨g, 0, none⟩) (l.length + 1) cap) (l.length + 1) (hgCells l ++ [.int .i64 x.b, .slice x.A x.cs.length x.c])) (hg : w.grownBy w' v.ownBlock) (hat : v.ownBlock = some g ∨ g = w.heap.size) :
    HgOwn w' B0 base (.slice (some ⟨g, 0, none⟩) (l.length + 1) cap) (l ++ [x]) := by
  refine ⟨by rw [hgCells_snoc, List.length_append]; exact hown, fun y hy => ?_⟩
  have hf := Fr.of_grown hg
  have hs := hg.size
  have key : RdP w (fun b => (b < B0 ∨ base ≤ b) ∧ b < w.heap.size ∧ some b ≠ v.ownBlock) 2 y.A y.cs.length (cells2 y.cs) := by
    rw [List.mem_append, List.mem_singleton] at hy
    rcases hy with hy | rfl
    · exact h.2 y hy
    · exact hx
  refine key.keep (fun p hp => hf.cell hp.2.1 (fun e => hp.2.2 e)) (fun b hb => ⟨hb.1, by omega, ?_⟩)
  show some b ≠ some g
  rcases hat with hat | hat
  · rw [← hat]; exact hb.2.2
  · intro e; cases e; omega
end

theorem bytesH : Tryd.prog.bytesOf 24 = 32 := by kernel_rfl
theorem cellsHs : Tryd.prog.cellsOf 47 = 1 := by kernel_rfl
theorem cellsCs : Tryd.prog.cellsOf 22 = 1 := by kernel_rfl
theorem cellsSer : Tryd.prog.cellsOf 49 = 2 := by kernel_rfl
theorem weightsAll_mem {H : Type} {P : Program} {e : TypeId} {d : DataW H} {x : Nat} : ∀ {ds : List (DataW H)}, d ∈ ds → x ∈ d.weights P e → x ∈ DataW.weightsAll P e ds
  | [], h, _ => by cases h
  | y :: ds, h, hx => by
    rw [DataW.weightsAll, List.mem_append]
    rcases List.mem_cons.1 h with rfl | h
    · exact .inl hx
    · exact .inr (weightsAll_mem h hx)
section
variable {H : Type} {enc : TypeId × Value → H} {W : World} {base : Nat}
set_option maxRecDepth 100000 in
theorem open_counts {fuel : Nat} {v : Value} {x : DataW H × List MemPlace} (h : DataW.trod enc Tryd.prog W 0 (fun _ => true) true fuel 22 [v] = some x) (hs : ∀ y ∈ x.1.weights Tryd.prog 22, y ≤ reachBytes) :
    ∃ A c cs, v = .slice A cs.length c ∧ Rd W 0 W.heap.size 2 A cs.length (cells2 cs) ∧ cs.length ≤ 8796093022208 ∧ (∀ q ∈ cs, I64 q.1 ∧ I64 q.2) := by
  rcases open_slice_pairs Tryd.underlying22 Tryd.underlying63 cellsC rfl rfl cellsI cellsI h with ⟨hcs, hx⟩ | ⟨a, len, cap, k, n, V0, V1, D0, D1, P0, P1, hcs, _, hl, hm, hk, hx, hall⟩
  · simp at hcs
    subst hcs
    exact ⟨none, 0, [], rfl, Rd.nil, by simp, fun _ h => by cases h⟩
  · simp at hcs
    subst hcs
    simp only [if_true] at hk
    subst hk
    have hw := hs (len * 16 + (k - len) * 16) (by
      rw [hx]
      simp only [DataW.weights, Tryd.underlying22, bytesC]
      simp [Nat.add_mul])
    unfold reachBytes at hw
    have each : ∀ i, i < len → ∃ s : Int × Int, (W.cell? (a.add (i * 2)) = some (.int .i64 s.1) ∧ W.cell? (a.add (i * 2 + 1)) = some (.int .i64 s.2)) ∧ I64 s.1 ∧ I64 s.2 := by
      intro i hi
      obtain ⟨c0, c1, t0, t1⟩ := hall i (by omega)
      obtain ⟨s0, e0, _, w0⟩ := DataW.trod_int Tryd.underlying3 t0
      obtain ⟨s1, e1, _, w1⟩ := DataW.trod_int Tryd.underlying3 t1
      simp at e0 e1
      exact ⟨(s0, s1), ⟨by rw [c0, e0], by rw [c1, e1]⟩, i64_wf w0, i64_wf w1⟩
    obtain ⟨q, hq⟩ := choose_lt (α := Int × Int) each
    have hl' : ((List.range len).map q).length = len := by simp
    refine ⟨some a, k, (List.range len).map q, by rw [hl'], ⟨by rw [cells2_length], fun hp => ?_⟩, by rw [hl']; omega, ?_⟩
    · rw [hl'] at hp
      have h0 := (hq 0 hp).1.1
      have hsp := spot_none (a := a) (by simpa [Addr.add] using h0)
      have hlt := World.block_lt_of_cell? W _ h0
      rw [add_at a hsp] at hlt
      refine ⟨a.block, a.off, by cases a; simp_all, Nat.zero_le _, hlt, fun j u hj => ?_⟩
      have hj' : j < len * 2 := by
        have := (List.getElem?_eq_some_iff.1 hj).1
        rw [cells2_length, hl'] at this; exact this
      have hil : j / 2 < len := by omega
      have hget : ((List.range len).map q)[j / 2]? = some (q (j / 2)) := by simp [hil]
      obtain ⟨c0, c1⟩ := (hq (j / 2) hil).1
      rw [add_at a hsp] at c0 c1
      obtain ⟨g0, g1⟩ := cells2_get hget
      rcases (show j % 2 = 0 ∨ j % 2 = 1 by omega) with e | e
      · have ej : j = j / 2 * 2 := by omega
        rw [ej] at hj ⊢
        rw [g0] at hj
        rw [c0, ← hj]
      · have ej : j = j / 2 * 2 + 1 := by omega
        rw [ej] at hj ⊢
        rw [g1] at hj
        rw [c1, ← hj]
    · intro y hy
      simp only [List.mem_map, List.mem_range] at hy
      obtain ⟨i, hi, rfl⟩ := hy
      exact (hq i hi).2

set_option maxRecDepth 100000 in
theorem open_series {v : Value} {d : DataW H} {p : List MemPlace} (hv : Value.okWide Tryd.prog W .any base 49 v) (h : DataW.Trod enc Tryd.prog W 0 (fun _ => true) true 49 v d p) (hs : ∀ x ∈ d.weights Tryd.prog 49, x ≤ reachBytes) :
    ∃ b A c l, v = .agg #[.int .i64 b, .slice A l.length c] ∧ I64 b ∧ HgR W W.heap.size A l.length l ∧ l.length ≤ 4398046511104 ∧ (∀ h ∈ l, I64 h.b ∧ h.cs.length ≤ 8796093022208 ∧ ∀ q ∈ h.cs, I64 q.1 ∧ I64 q.2) ∧ l.length ≤ c := by
  obtain ⟨c0, c1, y0, y1, m, rfl, rfl, rfl, hy0, hy1⟩ := open_agg2 Tryd.underlying49 (by kernel_rfl) cellsSer hv h
  obtain ⟨b, e0, rfl, wb⟩ := DataW.trod_int Tryd.underlying3 hy0
  simp at e0
  subst e0
  have hs1 : ∀ x ∈ y1.1.weights Tryd.prog 47, x ≤ reachBytes := fun x hx => hs x (by
    simp only [DataW.weights, Tryd.underlying49, DataW.weightsEach, List.map_cons, List.map_nil]
    simp [hx])
  rcases open_slice Tryd.underlying47 hy1 with ⟨hcs, hx⟩ | ⟨a, len, cap, mm, nn, D, Pl, hcs, _, hl, hm, hmm, hx, hall⟩
  · simp at hcs
    subst hcs
    exact ⟨b, none, 0, [], rfl, i64_wf wb, HgR.nil, by simp, (fun _ h => by cases h), by simp⟩
  · simp at hcs
    subst hcs
    simp only [if_true] at hmm
    subst hmm
    have hwl := hs1 (len * 32 + (mm - len) * 32) (by
      rw [hx]
      simp only [DataW.weights, Tryd.underlying47, bytesH]
      simp [Nat.add_mul])
    have hs2 : ∀ i, i < len → ∀ x ∈ (D i).weights Tryd.prog 24, x ≤ reachBytes := by
      intro i hi x hxm
      refine hs1 x ?_
      rw [hx]
      simp only [DataW.weights, Tryd.underlying47]
      rw [List.mem_cons, List.mem_append]
      exact .inr (.inl (weightsAll_mem (d := D i) (by simp only [List.mem_map, List.mem_range]; exact ⟨i, hi, rfl⟩) hxm))
    unfold reachBytes at hwl
    have each : ∀ i, i < len → ∃ s : Hg, (W.cell? (a.add (i * 2)) = some (.int .i64 s.b) ∧ W.cell? (a.add (i * 2 + 1)) = some (.slice s.A s.cs.length s.c)) ∧
        Rd W 0 W.heap.size 2 s.A s.cs.length (cells2 s.cs) ∧ I64 s.b ∧ s.cs.length ≤ 8796093022208 ∧ ∀ q ∈ s.cs, I64 q.1 ∧ I64 q.2 := by
      intro i hi
      obtain ⟨cs', h1, h2⟩ := hall i (by omega)
      rw [cellsH] at h1
      obtain ⟨_, hlen, hcell⟩ := World.cells?_some h1
      obtain ⟨y0, y1, n4, hd, _, g0, g1⟩ := trod_struct2 Tryd.underlying24 h2
      match cs', hlen with
      | [v0, v1], _ =>
        rw [cellsI] at g0
        rw [cellsCs] at g1
        simp at g0 g1
        obtain ⟨z0, e0, rfl, w0⟩ := DataW.trod_int Tryd.underlying3 g0
        simp at e0
        subst e0
        have hs3 := hs2 i hi
        rw [show D i = _ from congrArg Prod.fst hd] at hs3
        obtain ⟨A2, c2, cs, rfl, r2, m2, q2⟩ := open_counts g1 (fun y hy => hs3 y (by
          simp only [DataW.weights, Tryd.underlying24, DataW.weightsEach, List.map_cons, List.map_nil]
          simp [hy]))
        have k0 := hcell 0 (by omega)
        have k1 := hcell 1 (by omega)
        rw [add_add] at k0 k1
        exact ⟨⟨z0, A2, c2, cs⟩, ⟨by simpa using k0, by simpa using k1⟩, r2, i64_wf w0, m2, q2⟩
    obtain ⟨q, hq⟩ := choose_lt each
    have hl' : ((List.range len).map q).length = len := by simp
    refine ⟨b, some a, mm, (List.range len).map q, by rw [hl'], i64_wf wb, ⟨⟨by rw [hgCells_length], fun hp => ?_⟩, fun s hs => ?_⟩, by rw [hl']; omega, fun s hs => ?_, by rw [hl']; omega⟩
    · rw [hl'] at hp
      have h0 := (hq 0 hp).1.1
      have hsp := spot_none (a := a) (by simpa [Addr.add] using h0)
      have hlt := World.block_lt_of_cell? W _ h0
      rw [add_at a hsp] at hlt
      refine ⟨a.block, a.off, by cases a; simp_all, Nat.zero_le _, hlt, fun j u hj => ?_⟩
      have hj' : j < len * 2 := by
        have := (List.getElem?_eq_some_iff.1 hj).1
        rw [hgCells_length, hl'] at this; exact this
      have hil : j / 2 < len := by omega
      have hget : ((List.range len).map q)[j / 2]? = some (q (j / 2)) := by simp [hil]
      obtain ⟨c0, c1⟩ := (hq (j / 2) hil).1
      rw [add_at a hsp] at c0 c1
      have g := flat_get (fun h : Hg => [Value.int .i64 h.b, .slice h.A h.cs.length h.c]) 2 (fun _ => rfl) _ (j / 2) (j % 2) (Nat.mod_lt _ (by omega)) _ hget
      rw [show j / 2 * 2 + j % 2 = j by omega] at g
      have hj2 := hj
      unfold hgCells at hj2
      rw [g] at hj2
      rcases (show j % 2 = 0 ∨ j % 2 = 1 by omega) with e | e
      · rw [e] at hj2; simp at hj2
        rw [← hj2, ← c0]; congr 2; omega
      · rw [e] at hj2; simp at hj2
        rw [← hj2, ← c1]; congr 2; omega
    · simp only [List.mem_map, List.mem_range] at hs
      obtain ⟨i, hi, rfl⟩ := hs
      exact (hq i hi).2.1
    · simp only [List.mem_map, List.mem_range] at hs
      obtain ⟨i, hi, rfl⟩ := hs
      exact (hq i hi).2.2
end
end Go.Proofs.YtgmbgclhljobaaaDoor
