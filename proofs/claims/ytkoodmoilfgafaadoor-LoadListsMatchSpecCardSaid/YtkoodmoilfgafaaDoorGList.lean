import Derived.Test.YtkoodmoilfgafaaDoorSt
import Derived.Test.YtkoodmoilfgafaaDoorGRa
import Derived.Test.YtkoodmoilfgafaaDoorGRb
import Derived.Maps.AppendAt
import Derived.Laws.CopyOwn
import Derived.BigQuiet
import Derived.IntWalk
import Derived.Deep.QuietTactic
import Derived.Test.YtkoodmoilfgafaaDoorGFit
import Derived.Test.YtkoodmoilfgafaaDoorShelf
import Derived.Shelf.Spec.SlicesGrow
import Derived.Sort.OwnSortedInts
import Derived.Test.YtkoodmoilfgafaaDoorNewLine
/- Words for lists of lists of integers in memory. -/
namespace Go.Proofs.YtkoodmoilfgafaaDoor
open Go Go.RowKit Go.Proofs

/-- a list of integers in memory -/
structure Ls where
  A : Option Addr
  c : Nat
  zs : List Int
instance : Inhabited Ls := ⟨⟨none, 0, []⟩⟩
def lsCells (l : List Ls) : List Value := l.map fun h => .slice h.A h.zs.length h.c
theorem lsCells_length (l : List Ls) : (lsCells l).length = l.length := by simp [lsCells]
theorem lsCells_snoc (l : List Ls) (h : Ls) : lsCells (l ++ [h]) = lsCells l ++ [.slice h.A h.zs.length h.c] := by simp [lsCells]
/-- what is seen of them -/
def lsAbs (l : List Ls) : List (List Int) := l.map (·.zs)
/-- the slice reads as these lists -/
def LsR (w : World) (B : Nat) (A : Option Addr) (n : Nat) (l : List Ls) : Prop :=
  Rd w 0 B 1 A n (lsCells l) ∧ ∀ h ∈ l, Rd w 0 B 1 h.A h.zs.length (ints h.zs) ∧ (h.A = none → h.zs.length = 0 ∧ h.c = 0)
section
variable {w w' : World} {B B' n : Nat} {A : Option Addr} {l : List Ls}
theorem LsR.len (h : LsR w B A n l) : l.length = n := by have := h.1.1; rw [lsCells_length] at this; omega
theorem LsR.below (h : LsR w B A n l) (hb : Below B' w w') (hB : B ≤ B') : LsR w' B A n l := ⟨h.1.below hb hB, fun s hs => ⟨(h.2 s hs).1.below hb hB, (h.2 s hs).2⟩⟩
theorem LsR.more (h : LsR w B A n l) (hB : B ≤ B') : LsR w B' A n l := ⟨h.1.more (Nat.le_refl _) hB, fun s hs => ⟨(h.2 s hs).1.more (Nat.le_refl _) hB, (h.2 s hs).2⟩⟩
theorem LsR.old (h : LsR w w.heap.size A n l) (hb : Below w.heap.size w w') : LsR w' w'.heap.size A n l := (h.below hb (Nat.le_refl _)).more hb.size
theorem LsR.nil : LsR w B none 0 [] := ⟨Rd.nil, fun _ h => by cases h⟩
theorem LsR.at {i : Nat} (h : LsR w B A n l) (hi : i < n) : ∃ b o s, A = some ⟨b, o, none⟩ ∧ b < B ∧ l[i]? = some s ∧ w.cell? ⟨b, o + i, none⟩ = some (.slice s.A s.zs.length s.c) ∧
    Rd w 0 B 1 s.A s.zs.length (ints s.zs) ∧ (s.A = none → s.zs.length = 0 ∧ s.c = 0) := by
  have hl := h.len
  obtain ⟨b, o, u, e, hb, hu, hc⟩ := h.1.at1 hi
  obtain ⟨s, hs⟩ : ∃ s, l[i]? = some s := ⟨l[i]'(by omega), List.getElem?_eq_getElem (by omega)⟩
  have hu' : (lsCells l)[i]? = some (.slice s.A s.zs.length s.c) := by unfold lsCells; rw [List.getElem?_map, hs]; rfl
  rw [hu'] at hu
  obtain rfl := Option.some.inj hu
  exact ⟨b, o, s, e, hb, hs, hc, h.2 s (List.mem_of_getElem? hs)⟩
end
/-- a slice of integers reads in a block that fits -/
def RdB (w : World) (P : Nat → Prop) (A : Option Addr) (n : Nat) (xs : List Value) : Prop :=
  xs.length = n * 1 ∧ (0 < n → ∃ b o, A = some ⟨b, o, none⟩ ∧ P b ∧ ∀ j u, xs[j]? = some u → w.cell? ⟨b, o + j, none⟩ = some u)
section
variable {w w' : World} {P P' : Nat → Prop} {n : Nat} {A : Option Addr} {xs : List Value}
theorem RdB.of {L B : Nat} (h : Rd w L B 1 A n xs) (hP : ∀ b, L ≤ b → b < B → P b) : RdB w P A n xs :=
  ⟨h.1, fun hn => by obtain ⟨b, o, e, h1, h2, h3⟩ := h.2 hn; exact ⟨b, o, e, hP b h1 h2, h3⟩⟩
theorem RdB.rd {L B : Nat} (h : RdB w P A n xs) (hP : ∀ b, P b → L ≤ b ∧ b < B) : Rd w L B 1 A n xs :=
  ⟨h.1, fun hn => by obtain ⟨b, o, e, h1, h2⟩ := h.2 hn; exact ⟨b, o, e, (hP b h1).1, (hP b h1).2, h2⟩⟩
theorem RdB.keep (h : RdB w P A n xs) (hk : ∀ p : Addr, P p.block → w'.cell? p = w.cell? p) (hP : ∀ b, P b → P' b) : RdB w' P' A n xs :=
  ⟨h.1, fun hn => by obtain ⟨b, o, e, h1, h2⟩ := h.2 hn; exact ⟨b, o, e, hP b h1, fun j u hu => (hk ⟨b, o + j, none⟩ h1).trans (h2 j u hu)⟩⟩
end
/-- a row of lists of the call's own; T: the type of its elements -/
def LsOwn (T : TypeId) (w : World) (base : Nat) (v : Value) (l : List Ls) : Prop :=
  w.ownsRow base T 1 v l.length (lsCells l) ∧ ∀ h ∈ l, RdB w (fun b => base ≤ b ∧ b < w.heap.size ∧ some b ≠ v.ownBlock) h.A h.zs.length (ints h.zs) ∧ (h.A = none → h.zs.length = 0 ∧ h.c = 0)
section
variable {T : TypeId} {w w' : World} {base : Nat} {v : Value} {l : List Ls}
theorem LsOwn.nil : LsOwn T w base (.slice none 0 0) [] := ⟨⟨by simp [lsCells], .inl ⟨rfl, rfl⟩⟩, fun _ h => by cases h⟩
theorem LsOwn.fr {may : Nat → Prop} (h : LsOwn T w base v l) (hf : Fr may w w') (hm : ∀ i, i < w.heap.size → may i → i < base) : LsOwn T w' base v l := by
  refine ⟨ownsRow_fr h.1 hf (fun i hi hx => ?_), fun x hx => ⟨(h.2 x hx).1.keep (fun p hp => hf.cell hp.2.1 (fun hx => ?_)) (fun b hb => ⟨hb.1, by have := hf.size; omega, hb.2.2⟩), (h.2 x hx).2⟩⟩
  · have h1 := ownsRow_block h.1 hi
    have := hm i h1.2 hx
    omega
  · have := hm _ hp.2.1 hx
    omega
theorem LsOwn.call (h : LsOwn T w base v l) (hb : Below w.heap.size w w') : LsOwn T w' base v l := h.fr (Fr.of_below hb) (fun i h1 h2 => by omega)
theorem LsOwn.rd (h : LsOwn T w base v l) : ∃ A c, v = .slice A l.length c ∧ LsR w w.heap.size A l.length l := by
  obtain ⟨A, cap, rfl, _⟩ := ownsRow_shape h.1
  exact ⟨A, cap, rfl, (Rd.of_own h.1).more (Nat.zero_le _) (Nat.le_refl _), fun x hx => ⟨(h.2 x hx).1.rd (fun b hb => ⟨Nat.zero_le _, hb.2.1⟩), (h.2 x hx).2⟩⟩
/-- a list in new memory is put at the end; w0: the world ahead of the call that made it -/
theorem LsOwn.app {w0 : World} {x : Ls} {v' : Value} (h0 : LsOwn T w0 base v l) (hb : Below w0.heap.size w0 w) (hx : Rd w w0.heap.size w.heap.size 1 x.A x.zs.length (ints x.zs)) (hxn : x.A = none → x.zs.length = 0 ∧ x.c = 0) (hbase : base ≤ w0.heap.size)
    (hown : w'.ownsRow base T 1 v' (l.length + 1) (lsCells l ++ [.slice x.A x.zs.length x.c])) (hg : w.grownBy w' v.ownBlock) (hat : v'.ownBlock = v.ownBlock ∨ v'.ownBlock = some w.heap.size) :
    LsOwn T w' base v' (l ++ [x]) := by
  have h := h0.call hb
  refine ⟨by rw [lsCells_snoc, List.length_append]; exact hown, fun y hy => ?_⟩
  have hf := Fr.of_grown hg
  have hs := hg.size
  have key : RdB w (fun b => base ≤ b ∧ b < w.heap.size ∧ some b ≠ v.ownBlock) y.A y.zs.length (ints y.zs) ∧ (y.A = none → y.zs.length = 0 ∧ y.c = 0) := by
    rw [List.mem_append, List.mem_singleton] at hy
    rcases hy with hy | rfl
    · exact h.2 y hy
    · refine ⟨RdB.of hx (fun b h1 h2 => ⟨by omega, h2, fun e => ?_⟩), hxn⟩
      have := ownsRow_block h0.1 e
      omega
  refine ⟨key.1.keep (fun p hp => hf.cell hp.2.1 (fun e => hp.2.2 e)) (fun b hb => ⟨hb.1, by omega, fun e => ?_⟩), key.2⟩
  rcases hat with hat | hat
  · rw [hat] at e; exact hb.2.2 e
  · rw [hat] at e; cases e; omega
end
end Go.Proofs.YtkoodmoilfgafaaDoor

/- Blocks of integers; slices.Clip at integers. -/
namespace Go.Proofs.YtkoodmoilfgafaaDoor
open Go Go.RowKit Go.Proofs

/-- block g holds these integers -/
def IBlk (w : World) (g : Nat) (o : List Int) : Prop := w.heap[g]? = some (.cells (ints o).toArray 3 (0, 0))
theorem IBlk.cell {w : World} {g : Nat} {o : List Int} (h : IBlk w g o) {i : Nat} {d : Int} (hi : o[i]? = some d) : w.cell? ⟨g, i, none⟩ = some (.int .i64 d) := by
  rw [cellsAt h]; simp [ints, hi]
theorem IBlk.frozen {w : World} {g : Nat} {o : List Int} (h : IBlk w g o) (i : Nat) : w.frozen? ⟨g, i, none⟩ = false := frozenAt h i
theorem IBlk.set {w : World} {g : Nat} {o : List Int} (h : IBlk w g o) (i : Nat) (d : Int) : IBlk (w.setCell ⟨g, i, none⟩ (.int .i64 d)) g (o.set i d) := by
  unfold IBlk at *
  simp only [World.setCell, Array.getElem?_modify, h, if_true, Option.map_some]
  congr 2
  rw [List.setIfInBounds_toArray]
  simp [ints, List.map_set]
theorem IBlk.of_own {w : World} {base g n : Nat} {o : List Int} (h : w.ownsRow base 3 1 (.slice (some ⟨g, 0, none⟩) n n) n (ints o)) : IBlk w g o ∧ o.length = n := by
  have hl : o.length = n := by have := h.1; simpa [ints] using this
  rcases h.2 with ⟨hv, _⟩ | ⟨g', cap, cur, hv, hb, hh, h1, h2, h3, h4⟩
  · cases hv
  · simp only [Value.slice.injEq, Option.some.injEq, Addr.mk.injEq] at hv
    obtain ⟨⟨rfl, _⟩, _, rfl⟩ := hv
    refine ⟨?_, hl⟩
    unfold IBlk
    rw [hh]
    have e : cur = (ints o).toArray := by
      apply Array.toList_inj.1
      rw [← h4, List.take_of_length_le (by simp; omega)]
    rw [e]
theorem IBlk.rd {w : World} {g : Nat} {o : List Int} (h : IBlk w g o) : Rd w 0 w.heap.size 1 (some ⟨g, 0, none⟩) o.length (ints o) :=
  ⟨by simp [ints], fun _ => ⟨g, 0, rfl, Nat.zero_le _, heap_lt h, fun j u hj => by rw [cellsAt h, Nat.zero_add]; simpa using hj⟩⟩
theorem made_zerosI (n : Nat) : (madeCells #[Value.int .i64 0] n).toList = ints (List.replicate n 0) := by
  rw [made_zeros4]; simp [d4s, ints]
set_option maxHeartbeats 1000000 in
set_option maxRecDepth 100000 in
theorem clipInts_any (A : Option Addr) (n c : Nat) (w : World) (hnc : n ≤ c) :
    Calls Tryd.prog 103 #[.slice A n c] w fun e w' => e = .returned (.slice A n n) ∧ w = w' := by
  go_enter Tryd.func103, Tryd.ntmps103
  go_wp2
  go_ret
  exact ⟨rfl, by trivial⟩
end Go.Proofs.YtkoodmoilfgafaaDoor

/- Lists of times: sorted lists, the parts of a list, shares, rounds: plain. -/
namespace Go.Proofs.YtkoodmoilfgafaaDoor

/-- a list in ascending order -/
def srtZ (l : List Int) : List Int := l.mergeSort fun x y => decide (x ≤ y)
theorem srtZ_perm (l : List Int) : (srtZ l).Perm l := List.mergeSort_perm l _
theorem srtZ_length (l : List Int) : (srtZ l).length = l.length := (srtZ_perm l).length_eq
theorem srtZ_pw (l : List Int) : (srtZ l).Pairwise (· ≤ ·) := by
  have := List.pairwise_mergeSort (le := fun x y : Int => decide (x ≤ y)) (fun a b c h1 h2 => by simp at *; omega) (fun a b => by simp; omega) l
  exact this.imp (by intro a b h; simpa using h)
theorem sorted_eq {a b : List Int} (ha : a.Pairwise (· ≤ ·)) (hb : b.Pairwise (· ≤ ·)) (h : a.Perm b) : a = b :=
  List.Perm.eq_of_pairwise (fun _ _ _ _ h1 h2 => Int.le_antisymm h1 h2) ha hb h
theorem srtZ_eq {a l : List Int} (ha : a.Pairwise (· ≤ ·)) (h : a.Perm l) : a = srtZ l := sorted_eq ha (srtZ_pw l) (h.trans (srtZ_perm l).symm)
theorem srtZ_congr {a b : List Int} (h : a.Perm b) : srtZ a = srtZ b := sorted_eq (srtZ_pw a) (srtZ_pw b) ((srtZ_perm a).trans (h.trans (srtZ_perm b).symm))
theorem srtZ_self {a : List Int} (ha : a.Pairwise (· ≤ ·)) : srtZ a = a := (srtZ_eq ha (List.Perm.refl a)).symm
theorem srtZ_mem {a : List Int} {x : Int} : x ∈ srtZ a ↔ x ∈ a := (srtZ_perm a).mem_iff
/-- an element put in behind those that are not above it -/
theorem ins_pw {l : List Int} {x : Int} {k : Nat} (hl : l.Pairwise (· ≤ ·)) (h1 : ∀ y ∈ l.take k, y ≤ x) (h2 : ∀ y ∈ l.drop k, x ≤ y) : (l.take k ++ x :: l.drop k).Pairwise (· ≤ ·) := by
  have h3 : (l.take k ++ l.drop k).Pairwise (· ≤ ·) := by rw [List.take_append_drop]; exact hl
  rw [List.pairwise_append] at h3 ⊢
  obtain ⟨p1, p2, p3⟩ := h3
  refine ⟨p1, List.pairwise_cons.2 ⟨h2, p2⟩, fun a ha b hb => ?_⟩
  rcases List.mem_cons.1 hb with rfl | hb
  · exact h1 a ha
  · exact p3 a ha b hb
theorem ins_perm (l : List Int) (x : Int) (k : Nat) : (l.take k ++ x :: l.drop k).Perm (l ++ [x]) := by
  have h : (l.take k ++ x :: l.drop k).Perm (x :: (l.take k ++ l.drop k)) := List.perm_middle
  rw [List.take_append_drop] at h
  exact h.trans (List.perm_append_comm (l₁ := [x]) (l₂ := l))
theorem ins_srt {zs : List Int} {x : Int} {k : Nat} (h1 : ∀ y ∈ (srtZ zs).take k, y ≤ x) (h2 : ∀ y ∈ (srtZ zs).drop k, x ≤ y) : (srtZ zs).take k ++ x :: (srtZ zs).drop k = srtZ (zs ++ [x]) :=
  srtZ_eq (ins_pw (srtZ_pw zs) h1 h2) ((ins_perm _ x k).trans ((srtZ_perm zs).append_right [x]))
theorem pw_get {l : List Int} (h : l.Pairwise (· ≤ ·)) {i j : Nat} {a b : Int} (hij : i ≤ j) (ha : l[i]? = some a) (hb : l[j]? = some b) : a ≤ b := by
  obtain ⟨hi, rfl⟩ := List.getElem?_eq_some_iff.1 ha
  obtain ⟨hj, rfl⟩ := List.getElem?_eq_some_iff.1 hb
  rcases Nat.eq_or_lt_of_le hij with e | e
  · subst e; exact Int.le_refl _
  · exact List.pairwise_iff_getElem.1 h i j hi hj e
/-- what a search by halves knows -/
theorem half_lo {l : List Int} (hl : l.Pairwise (· ≤ ·)) {m k : Nat} {a x : Int} (ha : l[m]? = some a) (hx : a ≤ x) (hk : k ≤ m + 1) : ∀ y ∈ l.take k, y ≤ x := by
  intro y hy
  obtain ⟨i, hi⟩ := List.getElem?_of_mem hy
  rw [List.getElem?_take] at hi
  split at hi
  · exact Int.le_trans (pw_get hl (by omega) hi ha) hx
  · cases hi
theorem half_hi {l : List Int} (hl : l.Pairwise (· ≤ ·)) {m : Nat} {a x : Int} (ha : l[m]? = some a) (hx : x < a) : ∀ y ∈ l.drop m, x ≤ y := by
  intro y hy
  obtain ⟨i, hi⟩ := List.getElem?_of_mem hy
  rw [List.getElem?_drop] at hi
  exact Int.le_trans (Int.le_of_lt hx) (pw_get hl (Nat.le_add_right m i) ha hi)

/-- the elements ahead of place m whose number, modulo n, is k -/
def partU (ts : List Int) (k n m : Nat) : List Int := ((List.range m).filter fun i => i % n == k).map fun i => ts.getD i 0
/-- a part of a list -/
def partL (ts : List Int) (k n : Nat) : List Int := partU ts k n ts.length
theorem partU_start (ts : List Int) {k n m : Nat} (hk : k < n) (hm : m ≤ k) : partU ts k n m = [] := by
  unfold partU
  rw [List.map_eq_nil_iff, List.filter_eq_nil_iff]
  intro i hi h
  have hi := List.mem_range.1 hi
  have : i % n = i := Nat.mod_eq_of_lt (by omega)
  simp at h; omega
theorem partU_step (ts : List Int) {k n j d : Nat} (hk : k < n) (h0 : 0 < d) (hd : d ≤ n) : partU ts k n (k + j * n + d) = partU ts k n (k + j * n) ++ [ts.getD (k + j * n) 0] := by
  unfold partU
  have e1 : (k + j * n) % n = k := by rw [Nat.add_mul_mod_self_right]; exact Nat.mod_eq_of_lt hk
  have e2 : (List.range (k + j * n + d)).filter (fun i => i % n == k) = (List.range (k + j * n)).filter (fun i => i % n == k) ++ [k + j * n] := by
    rw [List.range_add, List.filter_append]
    congr 1
    obtain ⟨d', rfl⟩ : ∃ d', d = d' + 1 := ⟨d - 1, by omega⟩
    rw [List.range_succ_eq_map, List.map_cons, List.filter_cons, if_pos (by simpa using e1)]
    congr 1
    rw [List.filter_eq_nil_iff]
    intro i hi h
    simp only [List.map_map, List.mem_map, List.mem_range, Function.comp] at hi
    obtain ⟨x, hx, rfl⟩ := hi
    have h : (k + j * n + Nat.succ x) % n = k := by simpa using h
    rw [show k + j * n + Nat.succ x = k + (x + 1) + j * n by omega, Nat.add_mul_mod_self_right] at h
    rcases Nat.lt_or_ge (k + (x + 1)) n with hl | hl
    · rw [Nat.mod_eq_of_lt hl] at h; omega
    · rw [Nat.mod_eq_sub_mod hl, Nat.mod_eq_of_lt (by omega)] at h; omega
  rw [e2, List.map_append]; rfl
theorem partU_mem {ts : List Int} {k n : Nat} {x : Int} (h : x ∈ partL ts k n) : x ∈ ts := by
  unfold partL partU at h
  obtain ⟨i, hi, rfl⟩ := List.mem_map.1 h
  have hi := List.mem_range.1 (List.mem_filter.1 hi).1
  rw [List.getD_eq_getElem?_getD, List.getElem?_eq_getElem hi]
  exact List.getElem_mem hi
theorem partL_le (ts : List Int) (k n : Nat) : (partL ts k n).length ≤ ts.length := by
  unfold partL partU
  rw [List.length_map]
  have := List.length_filter_le (fun i => i % n == k) (List.range ts.length)
  simpa using this
theorem partL_pw {ts : List Int} (h : ts.Pairwise (· ≤ ·)) (k n : Nat) : (partL ts k n).Pairwise (· ≤ ·) := by
  unfold partL partU
  rw [List.pairwise_map]
  refine (List.Pairwise.filter _ List.pairwise_lt_range).imp_of_mem fun {a b} ha hb hab => ?_
  have ha := List.mem_range.1 (List.mem_filter.1 ha).1
  have hb := List.mem_range.1 (List.mem_filter.1 hb).1
  rw [List.getD_eq_getElem?_getD, List.getD_eq_getElem?_getD]
  rw [List.getElem?_eq_getElem ha, List.getElem?_eq_getElem hb]
  exact pw_get h (Nat.le_of_lt hab) (List.getElem?_eq_getElem ha) (List.getElem?_eq_getElem hb)
/-- the numbers ahead of m, sorted by their rests -/
theorem rests_perm (l : List Nat) (f : Nat → Nat) : ∀ n, ((List.range n).flatMap fun k => l.filter fun i => f i == k).Perm (l.filter fun i => decide (f i < n))
  | 0 => by simp
  | n + 1 => by
    rw [List.range_succ, List.flatMap_append]
    have ih := rests_perm l f n
    have h := List.filter_append_perm (fun i => decide (f i < n)) (l.filter fun i => decide (f i < n + 1))
    rw [List.filter_filter, List.filter_filter] at h
    have e1 : (l.filter fun i => decide (f i < n) && decide (f i < n + 1)) = l.filter fun i => decide (f i < n) := by
      congr 1; funext i; rw [Bool.eq_iff_iff]; simp; omega
    have e2 : (l.filter fun i => (!decide (f i < n)) && decide (f i < n + 1)) = l.filter fun i => f i == n := by
      congr 1; funext i; rw [Bool.eq_iff_iff]; simp; omega
    rw [e1, e2] at h
    simpa using (ih.append_right _).trans h
theorem parts_perm (ts : List Int) {n : Nat} (hn : 0 < n) : ((List.range n).flatMap fun k => partL ts k n).Perm ts := by
  have h := (rests_perm (List.range ts.length) (fun i => i % n) n).map (fun i => ts.getD i 0)
  rw [List.map_flatMap] at h
  have e : ((List.range ts.length).filter fun i => decide (i % n < n)).map (fun i => ts.getD i 0) = ts := by
    rw [List.filter_eq_self.2 (by intro i _; simp; exact Nat.mod_lt _ hn)]
    apply List.ext_getElem
    · simp
    · intro i h1 h2
      simp [List.getD_eq_getElem?_getD, List.getElem?_eq_getElem h2]
  rw [e] at h
  exact h
theorem parts_srt {ts : List Int} (h : ts.Pairwise (· ≤ ·)) {n : Nat} (hn : 0 < n) : srtZ ((List.range n).flatMap fun k => partL ts k n) = ts :=
  (srtZ_congr (parts_perm ts hn)).trans (srtZ_self h)
/-- shares -/
def shareE (k n : Int) (i : Nat) : Int := if (i : Int) < k % n then k / n + 1 else k / n
def shareL (k n : Int) : List Int := (List.range n.toNat).map (shareE k n)
def shareC (k n : Int) : Int := if k < 0 ∨ 1000000000000 < k ∨ n < 1 ∨ 100 < n then 9 else 0
/-- when rounds begin -/
def paceB (begin : Int) (took : List Int) (period : Int) : Nat → Int
  | 0 => begin
  | k + 1 => paceB begin took period k + max (took.getD k 0) period
def paceL (begin : Int) (took : List Int) (period : Int) (k : Nat) : List Int := (List.range k).map (paceB begin took period)
def paceIn (x : Int) : Prop := 0 ≤ x ∧ x ≤ 1000000000000
instance (x : Int) : Decidable (paceIn x) := by unfold paceIn; infer_instance
def paceC (begin : Int) (took : List Int) (period : Int) : Int :=
  if ¬ paceIn begin then 9 else if 20000 < took.length then 3 else if (¬ ∀ x ∈ took, paceIn x) ∨ ¬ paceIn period then 9 else
    if ∃ j, j < took.length ∧ 1000000000000 < paceB begin took period j then 3 else 0
end Go.Proofs.YtkoodmoilfgafaaDoor

/- Package dynamometerref7: sorted. -/
namespace Go.Proofs.YtkoodmoilfgafaaDoor
open Go Go.RowKit Go.Proofs

/-- a row with an element, its whole block -/
theorem ownsRow_cells {w : World} {base : Nat} {e : TypeId} {n : Nat} {v : Value} {xs : List Value} (h : w.ownsRow base e 1 v n xs) (hn : 0 < n) :
    ∃ g cap R, v = .slice (some ⟨g, 0, none⟩) n cap ∧ base ≤ g ∧ w.heap[g]? = some (.cells (xs ++ R).toArray e (0, 0)) ∧ (xs ++ R).length = cap ∧ n ≤ cap ∧ cap ≤ maxLen ∧ xs.length = n := by
  rcases h.2 with ⟨_, h0⟩ | ⟨g, cap, cur, hv, hb, hh, h1, h2, h3, h4⟩
  · omega
  · have e0 : xs ++ cur.toList.drop n = cur.toList := by
      rw [← h4, Nat.mul_one, List.take_append_drop]
    refine ⟨g, cap, cur.toList.drop n, hv, hb, ?_, ?_, h1, h2, by have := h.1; omega⟩
    · rw [hh, e0]
    · rw [e0]; simp; omega
theorem ownsRow_of_cells {w : World} {base g cap : Nat} {e : TypeId} {xs R : List Value} (hb : base ≤ g) (hh : w.heap[g]? = some (.cells (xs ++ R).toArray e (0, 0))) (hl : (xs ++ R).length = cap) (hc : cap ≤ maxLen) : w.ownsRow base e 1 (.slice (some ⟨g, 0, none⟩) xs.length cap) xs.length xs := by
  refine ⟨by omega, .inr ⟨g, cap, _, rfl, hb, hh, by rw [← hl]; simp, hc, by simpa using hl, ?_⟩⟩
  simp
theorem splice_set (S : List Int) (z x : Int) (R : List Value) {a : Nat} (ha : a ≤ S.length) :
    (splice (ints S ++ [Value.int .i64 z] ++ R) (a + 1) (ints (S.drop a))).set a (.int .i64 x) = ints (S.take a ++ x :: S.drop a) ++ R := by
  have e1 : ints S = ints (S.take a) ++ ints (S.drop a) := by rw [← List.take_append_drop a S]; simp [ints]
  have l1 : (ints (S.take a)).length = a := by simp [ints]; omega
  have l2 : (ints S).length = S.length := by simp [ints]
  have l3 : (ints (S.drop a)).length = S.length - a := by simp [ints]
  unfold splice
  rw [l3]
  have d1 : List.drop (a + 1 + (S.length - a)) (ints S ++ [Value.int .i64 z] ++ R) = R := by
    rw [List.drop_append, List.drop_of_length_le (by simp [ints]; omega)]
    simp only [List.nil_append, List.length_append, l2, List.length_singleton]
    rw [show a + 1 + (S.length - a) - (S.length + 1) = 0 by omega]; rfl
  rw [d1]
  obtain ⟨y, T, hy⟩ : ∃ y T, ints (S.drop a) ++ ([Value.int .i64 z] ++ R) = y :: T := by
    cases h : ints (S.drop a) with
    | nil => exact ⟨_, _, rfl⟩
    | cons y t => exact ⟨y, _, rfl⟩
  have t1 : List.take (a + 1) (ints S ++ [Value.int .i64 z] ++ R) = ints (S.take a) ++ [y] := by
    rw [List.append_assoc, e1, List.append_assoc, hy]
    rw [List.take_append, l1, List.take_of_length_le (by omega), show a + 1 - a = 1 by omega]; rfl
  rw [t1, List.append_assoc, List.set_append_right _ _ (by omega), l1, Nat.sub_self]
  simp [ints]

set_option maxHeartbeats 4000000 in
set_option maxRecDepth 100000 in
theorem r7Sorted_any (A : Option Addr) (c : Nat) (zs : List Int) (w : World) (hr : Rd w 0 w.heap.size 1 A zs.length (ints zs)) (hl : zs.length ≤ 20000) :
    Calls Tryd.prog 106 #[.slice A zs.length c] w fun e w' => ∃ A' c', e = .returned (.slice A' (srtZ zs).length c') ∧ Rd w' 0 w'.heap.size 1 A' (srtZ zs).length (ints (srtZ zs)) ∧ Below w.heap.size w w' := by
  obtain ⟨i0, hi0, hz0, hz1, hz2⟩ := info_parts Tryd.infoI4
  have HSZ := Lib.hid (show (Tryd.prog.info? 3).map (·.size) = some 1 by rw [hi0]; simp [hz1])
  have HUI := Lib.hid (Tryd.underlying28)
  have HR := Lib.hid hr
  clear hr
  go_enter Tryd.func106, Tryd.ntmps106
  go_wp2_with fail
  go_loopw [3, 4, 5, 6, 7] (fun ov iv _ _ _ wr => ∃ k : Nat, iv = .int .i64 k ∧ k ≤ zs.length ∧ wr.ownsRow w.heap.size 3 1 ov k (ints (srtZ (zs.take k))) ∧ Below w.heap.size w wr) (fun _ iv _ _ _ _ => zs.length - (intOf iv).toNat)
  case atStart => exact ⟨0, rfl, Nat.zero_le _, ⟨by simp [srtZ, ints], .inl ⟨rfl, rfl⟩⟩, Below.refl _ _⟩
  case round =>
    obtain ⟨k, rfl, hk, hown, hbw⟩ := hrel
    have HBW := Lib.hid hbw
    have hsz := hbw.size
    by_cases hlt : k < zs.length
    · obtain ⟨b, o, u, rfl, hb, hu, q0⟩ := HR.out.at1 hlt
      obtain ⟨x, ht, rfl⟩ := ints_get hu
      have HLX := Lib.hid (show ∀ Y, Below w.heap.size w Y → Y.cell? ⟨b, o + k, none⟩ = some (.int .i64 x) from fun Y hY => (hY.cell (p := ⟨b, o + k, none⟩) hb).trans q0)
      have qk := HLX.out wr hbw
      clear q0
      obtain ⟨A', cap, rfl, hkc, _, _⟩ := ownsRow_shape hown
      obtain ⟨S, hS⟩ : ∃ S, S = srtZ (zs.take k) := ⟨_, rfl⟩
      have hpw : S.Pairwise (· ≤ ·) := by rw [hS]; exact srtZ_pw _
      have hSl : S.length = k := by rw [hS, srtZ_length, List.length_take]; omega
      have HINS := Lib.hid (show ∀ a, (∀ y ∈ S.take a, y ≤ x) → (∀ y ∈ S.drop a, x ≤ y) → S.take a ++ x :: S.drop a = srtZ (zs.take (k + 1)) from fun a h1 h2 => by
        rw [List.take_add_one, ht]
        rw [hS] at h1 h2 ⊢
        exact ins_srt h1 h2)
      rw [← hS] at hown
      have HOW := Lib.hid hown
      have HPW := Lib.hid hpw
      have HSL := Lib.hid hSl
      obtain ⟨W, hW⟩ : ∃ z : World, z = wr := ⟨_, rfl⟩
      subst hW
      clear hu ht hS hpw hSl hown hbw
      go_wp2_with fail
      go_loopw [5, 6, 7] (fun lo hi _ wz => ∃ a d : Nat, lo = .int .i64 a ∧ hi = .int .i64 d ∧ a ≤ d ∧ d ≤ k ∧ Hid (∀ y ∈ S.take a, y ≤ x) ∧ Hid (∀ y ∈ S.drop d, x ≤ y) ∧ ∃ q, wz = W.drewN q) (fun lo hi _ _ => (intOf hi - intOf lo).toNat)
      case atStart => exact ⟨0, k, rfl, rfl, Nat.zero_le _, Nat.le_refl _, Lib.hid (fun y hy => by simp at hy), Lib.hid (fun y hy => by rw [List.drop_of_length_le (by rw [HSL.out]; exact Nat.le_refl _)] at hy; cases hy), 0, rfl⟩
      case round =>
        obtain ⟨a, d, rfl, rfl, had, hdk, HLO, HHI, q, rfl⟩ := hrel
        by_cases hin : a < d
        · obtain ⟨m, hm⟩ : ∃ m, m = (a + d) / 2 := ⟨_, rfl⟩
          have hm1 : ((a : Int) + d) / 2 = (m : Int) := by rw [hm]; omega
          have hm2 : a ≤ m := by omega
          have hm3 : m < d := by omega
          have HM := Lib.hid (And.intro hm1 (And.intro hm2 hm3))
          obtain ⟨b2, o2, u2, rfl, hb2, hu2, q2⟩ := (Rd.of_own HOW.out).at1 (show m < k by omega)
          obtain ⟨y, hy, rfl⟩ := ints_get hu2
          have i1 : (m : Int) < (k : Int) := by omega
          by_cases hle : y ≤ x
          · have t1 : decide (y ≤ x) = true := by simpa using hle
            have HLO2 := Lib.hid (half_lo HPW.out hy hle (Nat.le_refl (m + 1)))
            clear hu2 hy hm hle
            go_wp2_with fail
            go_quiet (fail)
            go_wp2
            go_roundw
            case rel => exact ⟨m + 1, d, by first | go_num | (rw [HM.out.1]; go_num), rfl, by have := HM.out; omega, by omega, HLO2, HHI, _, by first | rfl | (rw [drewN_add, drewN_add]) | (rw [drewN_add])⟩
            case measure => have := HM.out; simp [intOf]; omega
          · have t1 : decide (y ≤ x) = false := by simpa using hle
            have HHI2 := Lib.hid (half_hi HPW.out hy (show x < y by omega))
            clear hu2 hy hm hle
            go_wp2_with fail
            go_quiet (fail)
            go_wp2
            go_roundw
            case rel => exact ⟨a, m, rfl, by first | rfl | rw [HM.out.1], by have := HM.out; omega, by have := HM.out; omega, HLO, HHI2, _, by first | rfl | (rw [drewN_add, drewN_add]) | (rw [drewN_add])⟩
            case measure => have := HM.out; simp [intOf]; omega
        · obtain rfl : a = d := by omega
          have hin2 : a ≤ k := hdk
          have HES := Lib.hid (HINS.out a HLO.out HHI.out)
          have HOD := Lib.hid (show (W.drewN q).ownsRow w.heap.size 3 1 (.slice A' k cap) k (ints S) from HOW.out)
          have HBD := Lib.hid (show Below w.heap.size w (W.drewN q) from below_drewN HBW.out q)
          obtain ⟨X, hX⟩ : ∃ X, X = W.drewN q := ⟨_, rfl⟩
          rw [← hX] at HOD HBD ⊢
          have hsX : w.heap.size ≤ X.heap.size := HBD.out.size
          clear hX
          go_wp2_with (at_builtin; refine wpList_append_own _ rfl (.tmp 35) (.tmp 36) 28 rfl w.heap.size 3 i0 _ 1 8 Tryd.underlying28 hi0 hz0 hz1 hz2 rfl (by decide) _ k (ints S) rfl (HOD.out.alloc _) ⟨X.heap.size, 0, none⟩ 1 1 [.int .i64 0] rfl rfl (cell_one_new X _ 3) (by simp [Value.oneCell']) (by unfold maxLen; omega) (by omega) (by simp; omega) ?_)
          intro v' w6 hown6 hgr6 _
          have HB6 := Lib.hid (show Below w.heap.size w w6 from (HBD.out.alloc (by omega) _).trans ((Fr.of_grown hgr6).below (B := w.heap.size) (by simp; omega) (fun i hi hm => by have := (ownsRow_block HOD.out hm).1; omega)))
          have hs6 := HB6.out.size
          obtain ⟨g, cp, R, rfl, hg0, hgc, hcl, hkc6, hcm, _⟩ := ownsRow_cells hown6 (by omega)
          have HGC := Lib.hid hgc
          have HCL := Lib.hid hcl
          have hgl := heap_lt hgc
          clear hown6 hgr6 hgc hcl
          have i1 : (a : Int) + 1 ≤ (k : Int) + 1 := by omega
          have i2 : (a : Int) ≤ (k : Int) + 1 := by omega
          have i3 : a + 1 ≤ cp := by omega
          have r1 : IntKind.i64.wrap ((a : Int) + 1) = (a : Int) + 1 := IntWalk.i64_in _ (by omega)
          have r2 : (0 : Int) ≤ (a : Int) + 1 := by omega
          have r3 : ((a : Int) + 1).toNat = a + 1 := by omega
          have HGD := Lib.hid (show w6.drew.heap[g]? = some (.cells (ints S ++ [Value.int .i64 0] ++ R).toArray 3 (0, 0)) from HGC.out)
          have HBX := Lib.hid (show Below w.heap.size w w6.drew from HB6.out.drew)
          have HN1 := Lib.hid (show (ints (S.drop a)).length = Nat.min (k + 1 - a) (k - a) by rw [ints_length, List.length_drop, HSL.out]; simp [Nat.min_def]; omega)
          have HPOS := Lib.hid (show 0 < (ints (S.drop a)).length → (if cp = a + 1 then some (⟨g, 0, none⟩ : Addr) else some ⟨g, a + 1, none⟩) = some ⟨g, a + 1, none⟩ ∧ ∃ ad, (if cp = a then some (⟨g, 0, none⟩ : Addr) else some ⟨g, a, none⟩) = some ad ∧ ∀ j v, (ints (S.drop a))[j]? = some v → w6.drew.cell? (ad.add j) = some v from fun hp => by
            rw [ints_length, List.length_drop, HSL.out] at hp
            refine ⟨if_neg (by omega), ⟨g, a, none⟩, if_neg (by omega), fun j v hj => ?_⟩
            have ea : (⟨g, a, none⟩ : Addr).add j = ⟨g, a + j, none⟩ := by unfold Addr.add; split <;> simp_all
            rw [ea, cellsAt HGD.out]
            have hjl : j < k - a := by have := (List.getElem?_eq_some_iff.1 hj).1; rwa [ints_length, List.length_drop, HSL.out] at this
            simp only [List.getElem?_toArray]
            rw [List.append_assoc, List.getElem?_append_left (by rw [ints_length, HSL.out]; omega)]
            rw [← hj]
            simp [ints, List.getElem?_drop])
          have HFIT := Lib.hid (show a + 1 + (ints (S.drop a)).length ≤ (ints S ++ [Value.int .i64 0] ++ R).length by simp [ints, HSL.out]; omega)
          have HONE := Lib.hid (show ∀ v ∈ ints (S.drop a), v.oneCell' = true from fun v hv => by
            unfold ints at hv; obtain ⟨z, _, rfl⟩ := List.mem_map.1 hv; rfl)
          obtain ⟨cs, hcs⟩ : ∃ cs, cs = ints (S.drop a) := ⟨_, rfl⟩
          obtain ⟨cur, hcur⟩ : ∃ cur, cur = ints S ++ [Value.int .i64 0] ++ R := ⟨_, rfl⟩
          rw [← hcs] at HN1 HPOS HFIT HONE
          rw [← hcur] at HGD HFIT
          have HCS := Lib.hid hcs
          have HCUR := Lib.hid hcur
          clear hcs hcur
          go_wp2_with fail
          go_region_law (refine step_copy_splice (by rfl) (.tmp 41) (.tmp 44) 28 28 (by rfl) 3 HUI.out HSZ.out (if cp = a + 1 then some ⟨g, 0, none⟩ else some ⟨g, a + 1, none⟩) (if cp = a then some ⟨g, 0, none⟩ else some ⟨g, a, none⟩) (k - a) (cp - (a + 1)) (k + 1 - a) (cp - a) (by go_simp) (by go_simp) g (a + 1) cur 3 HGD.out cs HN1.out HPOS.out HFIT.out HONE.out w.heap.size w HBX.out hg0 ?_; intro w7 HG7 hb7)
          all_goals
            have HBF := Lib.hid hb7
            have HG8 := Lib.hid (show w7.heap[g]? = some (.cells (splice cur (a + 1) cs).toArray 3 (0, 0)) from HG7)
            have q7 := HLX.out w7 hb7
            have hln : a < (splice cur (a + 1) cs).length := by rw [length_splice _ _ _ HFIT.out]; have := HFIT.out; omega
            obtain ⟨y0, hy0⟩ : ∃ y0, (splice cur (a + 1) cs)[a]? = some y0 := ⟨_, List.getElem?_eq_getElem hln⟩
            have p1 : w7.cell? ⟨g, a, none⟩ = some y0 := by rw [cellsAt HG8.out]; simpa using hy0
            have p2 : w7.frozen? ⟨g, a, none⟩ = false := frozenAt HG8.out a
            have HFN := Lib.hid (show (w7.setCell ⟨g, a, none⟩ (.int .i64 x)).ownsRow w.heap.size 3 1 (.slice (some ⟨g, 0, none⟩) (k + 1) cp) (k + 1) (ints (srtZ (zs.take (k + 1)))) by
              have e1 : (w7.setCell ⟨g, a, none⟩ (.int .i64 x)).heap[g]? = some (.cells (ints (srtZ (zs.take (k + 1))) ++ R).toArray 3 (0, 0)) := by
                simp only [World.setCell, Array.getElem?_modify, HG8.out, if_true, Option.map_some]
                congr 2
                rw [List.setIfInBounds_toArray, HCUR.out, HCS.out, splice_set S 0 x R (by rw [HSL.out]; exact hin2), HES.out]
                try simp
              have e2 : (ints (srtZ (zs.take (k + 1)))).length = k + 1 := by rw [ints_length, srtZ_length, List.length_take]; omega
              have := ownsRow_of_cells (xs := ints (srtZ (zs.take (k + 1)))) hg0 e1 (by rw [← HCL.out]; simp only [List.length_append, e2, ints_length, HSL.out, List.length_singleton]) hcm
              rw [e2] at this
              exact this)
            clear HG7 hb7 hln hy0
            go_wp2
            go_roundw
            case rel => exact ⟨k + 1, by go_num, by omega, HFN.out, HBF.out.setCell hg0 _⟩
            case measure => simp [intOf]; omega
    · obtain rfl : k = zs.length := by omega
      rw [List.take_of_length_le (Nat.le_refl _)] at hown
      obtain ⟨A', c', rfl, _, _, _⟩ := ownsRow_shape hown
      have HRD := Lib.hid ((Rd.of_own hown).more (Nat.zero_le _) (Nat.le_refl _))
      have HLL := Lib.hid (srtZ_length zs)
      clear hown hbw
      go_wp2
      go_ret
      exact ⟨A', c', by rw [HLL.out]; rfl, by rw [HLL.out]; exact HRD.out, HBW.out⟩
end Go.Proofs.YtkoodmoilfgafaaDoor

/- Together: the program's (slices.Concat, slices.Sort, slices.Clip at integers) and the reference's. -/
namespace Go.Proofs.YtkoodmoilfgafaaDoor
open Go Go.RowKit Go.Proofs

/-- the elements of the first lists -/
def flt (l : List Ls) (k : Nat) : List Int := (lsAbs (l.take k)).flatten
theorem flt_zero (l : List Ls) : flt l 0 = [] := by simp [flt, lsAbs]
theorem flt_succ {l : List Ls} {k : Nat} {s : Ls} (h : l[k]? = some s) : flt l (k + 1) = flt l k ++ s.zs := by
  unfold flt; rw [List.take_add_one, h]; simp [lsAbs]
theorem flt_all (l : List Ls) : flt l l.length = (lsAbs l).flatten := by unfold flt; rw [List.take_length]
theorem flt_le (l : List Ls) (k : Nat) : (flt l k).length ≤ (lsAbs l).flatten.length := by
  have h : l = l.take k ++ l.drop k := (List.take_append_drop k l).symm
  have e : (lsAbs l).flatten = flt l k ++ (lsAbs (l.drop k)).flatten := by
    unfold flt
    rw [← List.flatten_append]
    congr 1
    unfold lsAbs
    rw [← List.map_append, ← h]
  rw [e, List.length_append]; omega
/-- the first fault -/
def togF : List (List Int) → Int
  | [] => 0
  | z :: r => if codeT z ≠ 0 then codeT z else togF r
def togC (z : List (List Int)) : Int := if 100 < z.length then 3 else if togF z ≠ 0 then togF z else if 20000 < z.flatten.length then 3 else 0
def togR (z : List (List Int)) : List Int := if togC z = 0 then srtZ z.flatten else []
theorem togF_step {l : List Ls} {k : Nat} {s : Ls} (h : l[k]? = some s) : togF (lsAbs (l.drop k)) = if codeT s.zs ≠ 0 then codeT s.zs else togF (lsAbs (l.drop (k + 1))) := by
  obtain ⟨hk, rfl⟩ := List.getElem?_eq_some_iff.1 h
  rw [List.drop_eq_getElem_cons hk]; rfl
theorem lsAbs_length (l : List Ls) : (lsAbs l).length = l.length := by simp [lsAbs]
theorem togC_many {l : List Ls} (h : 100 < l.length) : togC (lsAbs l) = 3 ∧ togR (lsAbs l) = [] := by
  have e : togC (lsAbs l) = 3 := by unfold togC; rw [if_pos (by rw [lsAbs_length]; exact h)]
  exact ⟨e, by unfold togR; rw [if_neg (by omega)]⟩
theorem togC_fault {l : List Ls} {c : Int} (h : ¬ 100 < l.length) (hc : togF (lsAbs l) = c) (h0 : c ≠ 0) : togC (lsAbs l) = c ∧ togR (lsAbs l) = [] := by
  have e : togC (lsAbs l) = c := by unfold togC; rw [if_neg (by rw [lsAbs_length]; exact h), if_pos (by rw [hc]; exact h0), hc]
  exact ⟨e, by unfold togR; rw [if_neg (by rw [e]; exact h0)]⟩
theorem togC_long {l : List Ls} (h : ¬ 100 < l.length) (hc : togF (lsAbs l) = 0) (hl : 20000 < (lsAbs l).flatten.length) : togC (lsAbs l) = 3 ∧ togR (lsAbs l) = [] := by
  have e : togC (lsAbs l) = 3 := by unfold togC; rw [if_neg (by rw [lsAbs_length]; exact h), if_neg (by rw [hc]; simp), if_pos hl]
  exact ⟨e, by unfold togR; rw [if_neg (by omega)]⟩
theorem togC_ok {l : List Ls} (h : ¬ 100 < l.length) (hc : togF (lsAbs l) = 0) (hl : ¬ 20000 < (lsAbs l).flatten.length) : togC (lsAbs l) = 0 ∧ togR (lsAbs l) = srtZ (lsAbs l).flatten := by
  have e : togC (lsAbs l) = 0 := by unfold togC; rw [if_neg (by rw [lsAbs_length]; exact h), if_neg (by rw [hc]; simp), if_neg hl]
  exact ⟨e, by unfold togR; rw [if_pos e]⟩
theorem ints_app (a b : List Int) : ints (a ++ b) = ints a ++ ints b := by simp [ints]
theorem ints_one (a : List Int) : ∀ u ∈ ints a, u.oneCell' = true := by
  intro u hu; unfold ints at hu; obtain ⟨z, _, rfl⟩ := List.mem_map.1 hu; rfl

theorem growInts_any (n : Nat) (w : World) (h1 : n ≤ 1000000) :
    Calls Tryd.prog 127 #[.slice none 0 0, .int .i64 n] w fun e w' => ∃ v, e = .returned v ∧ w'.ownsRow w.heap.size 3 1 v 0 [] ∧ Below w.heap.size w w' := by
  rcases Nat.eq_zero_or_pos n with rfl | h0
  · refine (Any8.slices_Grow_room Tryd.growInts none 0 0 0 w (by omega) (by omega) (by omega) (by omega)).mono fun e w' ⟨he, hw⟩ => ?_
    subst hw
    exact ⟨_, he, ⟨rfl, .inl ⟨rfl, rfl⟩⟩, Below.refl _ _⟩
  · obtain ⟨i0, hi0, hz0, hz1, hz2⟩ := info_parts Tryd.infoI4
    have key := Any8.slices_Grow_grow Tryd.growInts i0 (.int .i64 0) hi0 hz0 (by rw [hz1]; omega) none 0 0 n [] w (Nat.le_refl _) (by omega) (by rw [hz2]; omega) (by omega) (by simp) (fun _ => rfl) (fun a h => by cases h)
    refine key.mono fun e w' ⟨he, hw⟩ => ?_
    subst hw
    refine ⟨_, he, ⟨rfl, .inr ⟨w.heap.size, _, _, rfl, Nat.le_refl _, alloc_at w.drew _ _ rfl, Nat.zero_le _, grownCap_le_maxLen _ _ _ _ (by unfold maxLen; omega), ?_, rfl⟩⟩, ((Below.refl _ w).drew.alloc (Nat.le_refl _) _)⟩
    have hg := grownCap_ge w (0 + n) 0 (Tryd.growInts_ren.t 25)
    have e3 : (Value.int IntKind.i64 0).cells.size = 1 := rfl
    simp only [Array.size_append, size_zeroCells, e3]
    generalize grownCap w (0 + n) 0 (Tryd.growInts_ren.t 25) = G at *
    simp
    omega

set_option maxHeartbeats 2000000 in
set_option maxRecDepth 100000 in
theorem concatInts_any (A : Option Addr) (c : Nat) (l : List Ls) (w : World) (hr : LsR w w.heap.size A l.length l) (hl : l.length ≤ 100) (ht : (lsAbs l).flatten.length ≤ 20000) :
    Calls Tryd.prog 104 #[.slice A l.length c] w fun e w' => ∃ v', e = .returned v' ∧ w'.ownsRow w.heap.size 3 1 v' (lsAbs l).flatten.length (ints (lsAbs l).flatten) ∧ Below w.heap.size w w' := by
  obtain ⟨ii, hii, hiz0, hiz1, hiz2⟩ := info_parts Tryd.infoI4
  have HR := Lib.hid hr
  have HFA := Lib.hid (flt_all l)
  have HF0 := Lib.hid (flt_zero l)
  have HFL := Lib.hid (fun k => Nat.le_trans (flt_le l k) ht)
  have HG := Lib.hid (fun k => growInts_any (flt l k).length w (by have := flt_le l k; omega))
  clear hr ht
  go_enter Tryd.func104, Tryd.ntmps104
  go_wp2_with fail
  go_loopw [3, 5, 11] (fun sv _ iv wr => wr = w ∧ ∃ k n : Nat, iv = .int .i64 k ∧ k ≤ l.length ∧ sv = .int .i64 n ∧ n ≤ 20000 ∧ Hid (n = (flt l k).length)) (fun _ _ iv _ => l.length - (intOf iv).toNat)
  case atStart => exact ⟨by trivial, 0, 0, rfl, Nat.zero_le _, rfl, by omega, Lib.hid (by rw [HF0.out]; rfl)⟩
  case round =>
    obtain ⟨rfl, k, n, rfl, hk, rfl, hn, HN⟩ := hrel
    by_cases hlt : k < l.length
    · obtain ⟨b, o, s, rfl, hb, hs, q, hrs, _⟩ := HR.out.at hlt
      have HS := Lib.hid (flt_succ hs)
      have hb2 := HFL.out (k + 1)
      rw [HS.out, List.length_append, ← HN.out] at hb2
      have HN2 := Lib.hid (show n + s.zs.length = (flt l (k + 1)).length by rw [HS.out, List.length_append, HN.out])
      have n1 : ¬ ((n : Int) + s.zs.length) < 0 := by omega
      clear hs hrs
      go_wp2
      go_roundw
      case rel => exact ⟨by trivial, k + 1, n + s.zs.length, by go_num, by omega, by go_num, hb2, HN2⟩
      case measure => simp [intOf]; omega
    · obtain rfl : k = l.length := by omega
      have HG2 := HG.out l.length
      rw [← HN.out] at HG2
      have HG3 := Lib.hid HG2
      clear HG2
      go_wp2_with fail
      (with_reducible refine HG3.out.mono ?_)
      rintro e w2 ⟨v2, rfl, hown, hb2⟩
      have HO2 := Lib.hid hown
      have HB2 := Lib.hid hb2
      clear hown hb2
      obtain ⟨w, hw⟩ : ∃ z : World, z = wr := ⟨_, rfl⟩
      subst hw
      go_wp2_with fail
      go_loopw [6, 8, 27] (fun ov _ iv wr => ∃ k n : Nat, iv = .int .i64 k ∧ k ≤ l.length ∧ n ≤ 20000 ∧ Hid (n = (flt l k).length) ∧ wr.ownsRow w.heap.size 3 1 ov n (ints (flt l k)) ∧ Below w.heap.size w wr) (fun _ _ iv _ => l.length - (intOf iv).toNat)
      case atStart => exact ⟨0, 0, rfl, Nat.zero_le _, by omega, Lib.hid (by rw [HF0.out]; rfl), by rw [HF0.out]; exact HO2.out, HB2.out⟩
      case round =>
        obtain ⟨k, m, rfl, hk, hm, HM, hown, hbw⟩ := hrel
        have HOW := Lib.hid hown
        have HBW := Lib.hid hbw
        have hsz := hbw.size
        by_cases hlt : k < l.length
        · obtain ⟨b, o, s, rfl, hb, hs, q, hrs, hsn⟩ := (HR.out.old hbw).at hlt
          have HS := Lib.hid (flt_succ hs)
          have hb2 := HFL.out (k + 1)
          rw [HS.out, List.length_append, ← HM.out] at hb2
          have HN2 := Lib.hid (show m + s.zs.length = (flt l (k + 1)).length by rw [HS.out, List.length_append, HM.out])
          have HRS := Lib.hid hrs
          have HSN := Lib.hid hsn
          clear hs hrs hsn hown hbw
          go_wp2_with (at_builtin; refine wpList_append_rd rfl (.tmp 31) (.tmp 32) 28 rfl w.heap.size 3 ii _ 1 8 Tryd.underlying28 hii hiz0 hiz1 hiz2 rfl (by decide) _ m (ints (flt l k)) rfl HOW.out s.A s.zs.length s.c 0 wr.heap.size (ints s.zs) rfl HSN.out HRS.out (ints_one _) ?c3 ?c4 ?c5 ?_)
          case c3 => unfold maxLen; omega
          case c4 => omega
          case c5 => exact hsz
          intro v4 w4 hown4 hgr4
          have HB4 := Lib.hid (show Below w.heap.size w w4 from HBW.out.trans ((Fr.of_grown hgr4).below (B := w.heap.size) hsz (fun j hj hm => by have := (ownsRow_block HOW.out hm).1; omega)))
          have HO4 := Lib.hid (show w4.ownsRow w.heap.size 3 1 v4 (m + s.zs.length) (ints (flt l (k + 1))) by rw [HS.out, ints_app]; exact hown4)
          clear hown4 hgr4
          go_wp2
          go_roundw
          case rel => exact ⟨k + 1, m + s.zs.length, by go_num, by omega, hb2, HN2, HO4.out, HB4.out⟩
          case measure => simp [intOf]; omega
        · obtain rfl : k = l.length := by omega
          have HO5 := Lib.hid (show wr.ownsRow w.heap.size 3 1 u6 (lsAbs l).flatten.length (ints (lsAbs l).flatten) by rw [← HFA.out, ← HM.out]; exact hown)
          clear hown hbw
          go_wp2
          go_ret
          exact ⟨_, rfl, HO5.out, HBW.out⟩

theorem sortInts_any (base : Nat) (v : Value) (zs : List Int) (w : World) (h : w.ownsRow base 3 1 v zs.length (ints zs)) (hl : zs.length ≤ 20000) :
    Calls Tryd.prog 105 #[v] w fun e w' => e = .returned (.tuple #[]) ∧ w'.ownsRow base 3 1 v zs.length (ints (srtZ zs)) ∧ w.grownBy w' v.ownBlock := by
  rcases Nat.eq_zero_or_pos zs.length with h0 | h0
  · have h0' : zs = [] := List.eq_nil_of_length_eq_zero h0
    subst h0'
    obtain ⟨A, cap, rfl, _⟩ := ownsRow_shape h
    refine (Tryd.slices_Sort_int_none A cap w).mono fun e w' ⟨he, hw⟩ => ?_
    subst hw
    exact ⟨he, by simpa [srtZ] using h, ⟨rfl, rfl, rfl, Nat.le_refl _, fun _ _ _ => rfl⟩⟩
  · rcases h.2 with ⟨_, hz⟩ | ⟨g, cap, cur, rfl, hb, hh, h1, h2, h3, h4⟩
    · omega
    · have hg := heap_lt hh
      have hH := holds_of_blockI (ss := zs) hh (by rw [Nat.mul_one] at h4; exact h4)
      refine (Tryd.slices_Sort_int g 0 cap zs w hH hg (by omega)).mono fun e w' ⟨he, n, os, hw⟩ => ?_
      subst hw
      refine ⟨he, ?_, grownBy_sortedI _⟩
      exact ownsRow_sortedI (ts := srtZ zs) (ss := zs) (srtZ_length zs) hb hh h1 h2 h3

set_option maxHeartbeats 2000000 in
set_option maxRecDepth 100000 in
theorem mergeInts_any (A : Option Addr) (c : Nat) (l : List Ls) (w : World) (hr : LsR w w.heap.size A l.length l) (hl : l.length ≤ 100) (ht : (lsAbs l).flatten.length ≤ 20000) :
    Calls Tryd.prog 73 #[.slice A l.length c] w fun e w' => ∃ A' c', e = .returned (.slice A' (srtZ (lsAbs l).flatten).length c') ∧ Rd w' 0 w'.heap.size 1 A' (srtZ (lsAbs l).flatten).length (ints (srtZ (lsAbs l).flatten)) ∧ Below w.heap.size w w' := by
  have HC := Lib.hid (concatInts_any A c l w hr hl ht)
  have HLN := Lib.hid (srtZ_length (lsAbs l).flatten)
  obtain ⟨F, hF⟩ : ∃ F, F = (lsAbs l).flatten := ⟨_, rfl⟩
  rw [← hF] at HC HLN ht ⊢
  clear hr hF
  go_enter Tryd.func73, Tryd.ntmps73
  go_wp2_with fail
  (with_reducible refine HC.out.mono ?_)
  rintro e w1 ⟨v1, rfl, hown, hb1⟩
  have HB1 := Lib.hid hb1
  have HS := Lib.hid (sortInts_any w.heap.size v1 F w1 hown ht)
  have HOB := Lib.hid (fun i (hi : some i = v1.ownBlock) => (ownsRow_block hown hi).1)
  have hs1 := hb1.size
  clear hown hb1
  go_wp2_with fail
  (with_reducible refine HS.out.mono ?_)
  rintro e w2 ⟨rfl, hown2, hgr2⟩
  have HB2 := Lib.hid (show Below w.heap.size w w2 from HB1.out.trans ((Fr.of_grown hgr2).below (B := w.heap.size) hs1 (fun j hj hm => by have := HOB.out j hm; omega)))
  obtain ⟨A', cap, rfl, hnc, _, _⟩ := ownsRow_shape hown2
  have HRD := Lib.hid ((Rd.of_own hown2).more (Nat.zero_le _) (Nat.le_refl _))
  have HCL := Lib.hid (fun W => clipInts_any A' F.length cap W hnc)
  clear hown2 hgr2 HOB
  go_wp2_with fail
  (with_reducible refine (HCL.out _).mono ?_)
  rintro e w3 ⟨rfl, rfl⟩
  go_wp2
  go_ret
  exact ⟨A', F.length, by rw [HLN.out]; rfl, by rw [HLN.out]; exact HRD.out, HB2.out⟩

set_option maxHeartbeats 4000000 in
set_option maxRecDepth 100000 in
theorem together_any (A : Option Addr) (c : Nat) (l : List Ls) (w : World) (hr : LsR w w.heap.size A l.length l) (hll : l.length ≤ 9223372036854775807) (hz : ∀ h ∈ l, h.zs.length ≤ 9223372036854775807) :
    Calls Tryd.prog 31 #[.slice A l.length c] w fun e w' => ∃ A' c', e = .returned (.tuple #[.slice A' (togR (lsAbs l)).length c', .int .i64 (togC (lsAbs l))]) ∧ Rd w' 0 w'.heap.size 1 A' (togR (lsAbs l)).length (ints (togR (lsAbs l))) ∧ Below w.heap.size w w' := by
  have HR := Lib.hid hr
  have HZ := Lib.hid hz
  by_cases h1 : 100 < l.length
  · have HE := Lib.hid (togC_many h1)
    have t1 : decide (100 < (l.length : Int)) = true := by simp; omega
    clear hr hz
    go_enter Tryd.func31, Tryd.ntmps31
    go_wp2
    go_ret2
    exact ⟨none, 0, by rw [HE.out.1, HE.out.2]; rfl, by rw [HE.out.2]; exact Rd.nil, Below.refl _ _⟩
  · have t1 : decide (100 < (l.length : Int)) = false := by simp; omega
    have HFA := Lib.hid (flt_all l)
    have HF0 := Lib.hid (flt_zero l)
    have H1 := Lib.hid h1
    have hl1 : l.length ≤ 100 := by omega
    clear hr hz
    go_enter Tryd.func31, Tryd.ntmps31
    go_wp2_with fail
    go_loopw [4, 6, 7, 13] (fun sv _ _ iv wr => ∃ k n : Nat, iv = .int .i64 k ∧ k ≤ l.length ∧ sv = .int .i64 n ∧ n ≤ 20000 * k ∧ Hid (n = (flt l k).length) ∧ Hid (togF (lsAbs l) = togF (lsAbs (l.drop k))) ∧ Below w.heap.size w wr) (fun _ _ _ iv _ => l.length - (intOf iv).toNat)
    case atStart => exact ⟨0, 0, rfl, Nat.zero_le _, rfl, by omega, Lib.hid (by rw [HF0.out]; rfl), Lib.hid rfl, Below.refl _ _⟩
    case round =>
      obtain ⟨k, n, rfl, hk, rfl, hn, HN, HT, hbw⟩ := hrel
      have HBW := Lib.hid hbw
      by_cases hlt : k < l.length
      · obtain ⟨b, o, s, rfl, hb, hs, q, hrs, _⟩ := (HR.out.old hbw).at hlt
        have HS := Lib.hid (flt_succ hs)
        have HST := Lib.hid (togF_step hs)
        have HCK := Lib.hid (checkTimes_any s.A s.c s.zs wr hrs (HZ.out s (List.mem_of_getElem? hs)))
        by_cases hc : codeT s.zs = 0
        · have hsl := (codeT_ok hc).le
          rw [hc] at HCK
          have HT2 := Lib.hid (show togF (lsAbs l) = togF (lsAbs (l.drop (k + 1))) by rw [HT.out, HST.out, if_neg (by rw [hc]; simp)])
          have HN2 := Lib.hid (show n + s.zs.length = (flt l (k + 1)).length by rw [HS.out, List.length_append, HN.out])
          clear hs hrs hbw hc
          go_wp2_with fail
          (with_reducible refine HCK.out.mono ?_)
          rintro e w2 ⟨rfl, hb2⟩
          have HB2 := Lib.hid (below_next HBW.out hb2)
          clear hb2
          go_wp2
          go_roundw
          case rel => exact ⟨k + 1, n + s.zs.length, by go_num, by omega, by go_num, by omega, HN2, HT2, HB2.out⟩
          case measure => simp [intOf]; omega
        · obtain ⟨cc, hcc⟩ : ∃ cc, cc = codeT s.zs := ⟨_, rfl⟩
          have HE := Lib.hid (togC_fault (c := cc) H1.out (by rw [HT.out, HST.out, if_pos hc, hcc]) (by rw [hcc]; exact hc))
          rw [← hcc] at HCK hc
          have t2 : (cc != 0) = true := by simpa using hc
          clear hs hrs hbw hcc HST
          go_wp2_with fail
          (with_reducible refine HCK.out.mono ?_)
          rintro e w2 ⟨rfl, hb2⟩
          have HB2 := Lib.hid (below_next HBW.out hb2)
          clear hb2
          go_wp2
          go_ret2
          first
            | exact ⟨none, 0, by rw [HE.out.1, HE.out.2]; rfl, by rw [HE.out.2]; exact Rd.nil, HB2.out⟩
            | exact ⟨none, ⟨0, by rw [HE.out.1, HE.out.2]; rfl⟩, by rw [HE.out.2]; exact Rd.nil, HB2.out⟩
      · obtain rfl : k = l.length := by omega
        have HT0 := Lib.hid (show togF (lsAbs l) = 0 by rw [HT.out, List.drop_of_length_le (Nat.le_refl _)]; rfl)
        have HNF := Lib.hid (show n = (lsAbs l).flatten.length by rw [← HFA.out]; exact HN.out)
        by_cases h2 : 20000 < n
        · have HE := Lib.hid (togC_long H1.out HT0.out (by rw [← HNF.out]; exact h2))
          have t2 : decide (20000 < (n : Int)) = true := by simp; omega
          have t3 : decide (20000 < n) = true := by simpa using h2
          clear hbw h2
          go_wp2
          go_ret2
          first
            | exact ⟨none, 0, by rw [HE.out.1, HE.out.2]; rfl, by rw [HE.out.2]; exact Rd.nil, HBW.out⟩
            | exact ⟨none, ⟨0, by rw [HE.out.1, HE.out.2]; rfl⟩, by rw [HE.out.2]; exact Rd.nil, HBW.out⟩
        · have HE := Lib.hid (togC_ok H1.out HT0.out (by rw [← HNF.out]; exact h2))
          have t2 : decide (20000 < (n : Int)) = false := by simp; omega
          have t3 : decide (20000 < n) = false := by simpa using h2
          have HM := Lib.hid (mergeInts_any A c l wr (HR.out.old hbw) hl1 (by rw [← HNF.out]; omega))
          clear hbw h2
          go_wp2_with fail
          (with_reducible refine HM.out.mono ?_)
          rintro e w2 ⟨A', c', rfl, hrd, hb2⟩
          have HRD := Lib.hid hrd
          have HB2 := Lib.hid (below_next HBW.out hb2)
          clear hrd hb2
          go_wp2
          go_ret2
          exact ⟨A', c', by rw [HE.out.1, HE.out.2]; rfl, by rw [HE.out.2]; exact HRD.out, HB2.out⟩

set_option maxHeartbeats 2000000 in
set_option maxRecDepth 100000 in
theorem r7Flat_any (A : Option Addr) (c : Nat) (l : List Ls) (w : World) (hr : LsR w w.heap.size A l.length l) (hl : l.length ≤ 100) (ht : (lsAbs l).flatten.length ≤ 20000) :
    Calls Tryd.prog 76 #[.slice A l.length c] w fun e w' => ∃ A' c', e = .returned (.slice A' (srtZ (lsAbs l).flatten).length c') ∧ Rd w' 0 w'.heap.size 1 A' (srtZ (lsAbs l).flatten).length (ints (srtZ (lsAbs l).flatten)) ∧ Below w.heap.size w w' := by
  obtain ⟨ii, hii, hiz0, hiz1, hiz2⟩ := info_parts Tryd.infoI4
  have HR := Lib.hid hr
  have HFA := Lib.hid (flt_all l)
  have HF0 := Lib.hid (flt_zero l)
  have HFL := Lib.hid (fun k => Nat.le_trans (flt_le l k) ht)
  clear hr
  go_enter Tryd.func76, Tryd.ntmps76
  go_wp2_with fail
  go_loopw [3, 4] (fun ov iv wr => ∃ k n : Nat, iv = .int .i64 k ∧ k ≤ l.length ∧ n ≤ 20000 ∧ Hid (n = (flt l k).length) ∧ wr.ownsRow w.heap.size 3 1 ov n (ints (flt l k)) ∧ Below w.heap.size w wr) (fun _ iv _ => l.length - (intOf iv).toNat)
  case atStart => exact ⟨0, 0, rfl, Nat.zero_le _, by omega, Lib.hid (by rw [HF0.out]; rfl), by rw [HF0.out]; exact ⟨by simp [ints], .inl ⟨rfl, rfl⟩⟩, Below.refl _ _⟩
  case round =>
    obtain ⟨k, m, rfl, hk, hm, HM, hown, hbw⟩ := hrel
    have HOW := Lib.hid hown
    have HBW := Lib.hid hbw
    have hsz := hbw.size
    by_cases hlt : k < l.length
    · obtain ⟨b, o, s, rfl, hb, hs, q, hrs, hsn⟩ := (HR.out.old hbw).at hlt
      have HS := Lib.hid (flt_succ hs)
      have hb2 := HFL.out (k + 1)
      rw [HS.out, List.length_append, ← HM.out] at hb2
      have HN2 := Lib.hid (show m + s.zs.length = (flt l (k + 1)).length by rw [HS.out, List.length_append, HM.out])
      have HRS := Lib.hid hrs
      have HSN := Lib.hid hsn
      clear hs hrs hsn hown hbw ht
      go_wp2_with (at_builtin; refine wpList_append_rd rfl (.tmp 11) (.tmp 15) 28 rfl w.heap.size 3 ii _ 1 8 Tryd.underlying28 hii hiz0 hiz1 hiz2 rfl (by decide) _ m (ints (flt l k)) rfl HOW.out s.A s.zs.length s.c 0 wr.heap.size (ints s.zs) rfl HSN.out HRS.out (ints_one _) ?c3 ?c4 ?c5 ?_)
      case c3 => unfold maxLen; omega
      case c4 => omega
      case c5 => exact hsz
      intro v4 w4 hown4 hgr4
      have HB4 := Lib.hid (show Below w.heap.size w w4 from HBW.out.trans ((Fr.of_grown hgr4).below (B := w.heap.size) hsz (fun j hj hm => by have := (ownsRow_block HOW.out hm).1; omega)))
      have HO4 := Lib.hid (show w4.ownsRow w.heap.size 3 1 v4 (m + s.zs.length) (ints (flt l (k + 1))) by rw [HS.out, ints_app]; exact hown4)
      clear hown4 hgr4
      go_wp2
      go_roundw
      case rel => exact ⟨k + 1, m + s.zs.length, by go_num, by omega, hb2, HN2, HO4.out, HB4.out⟩
      case measure => simp [intOf]; omega
    · obtain rfl : k = l.length := by omega
      obtain ⟨A', cap, rfl, hnc, _, _⟩ := ownsRow_shape hown
      have hF : (lsAbs l).flatten = flt l l.length := HFA.out.symm
      have hrd : Rd wr 0 wr.heap.size 1 A' (lsAbs l).flatten.length (ints (lsAbs l).flatten) := by
        rw [hF, ← HM.out]; exact (Rd.of_own hown).more (Nat.zero_le _) (Nat.le_refl _)
      have HS := r7Sorted_any A' cap (lsAbs l).flatten wr hrd ht
      rw [show (lsAbs l).flatten.length = m by rw [hF, HM.out]] at HS
      have HSO := Lib.hid HS
      clear hown hbw hF hrd HS
      go_wp2_with fail
      (with_reducible refine HSO.out.mono ?_)
      rintro e w2 ⟨A2, c2, rfl, hrd2, hb2⟩
      have HRD := Lib.hid hrd2
      have HB2 := Lib.hid (below_next HBW.out hb2)
      clear hrd2 hb2
      go_wp2
      go_ret
      exact ⟨A2, c2, rfl, HRD.out, HB2.out⟩
set_option maxHeartbeats 4000000 in
set_option maxRecDepth 100000 in
theorem r7TogF_any (A : Option Addr) (c : Nat) (l : List Ls) (w : World) (hr : LsR w w.heap.size A l.length l) (hll : l.length ≤ 9223372036854775807) (hz : ∀ h ∈ l, h.zs.length ≤ 9223372036854775807) :
    Calls Tryd.prog 75 #[.slice A l.length c] w fun e w' => e = .returned (.int .i64 (togC (lsAbs l))) ∧ Below w.heap.size w w' := by
  have HR := Lib.hid hr
  have HZ := Lib.hid hz
  by_cases h1 : 100 < l.length
  · have HE := Lib.hid (togC_many h1)
    have t1 : decide (100 < (l.length : Int)) = true := by simp; omega
    clear hr hz
    go_enter Tryd.func75, Tryd.ntmps75
    go_wp2
    go_ret
    exact ⟨by rw [HE.out.1]; rfl, Below.refl _ _⟩
  · have t1 : decide (100 < (l.length : Int)) = false := by simp; omega
    have HFA := Lib.hid (flt_all l)
    have HF0 := Lib.hid (flt_zero l)
    have H1 := Lib.hid h1
    have hl1 : l.length ≤ 100 := by omega
    clear hr hz
    go_enter Tryd.func75, Tryd.ntmps75
    go_wp2_with fail
    go_loopw [3, 4, 5] (fun sv iv _ wr => ∃ k n : Nat, iv = .int .i64 k ∧ k ≤ l.length ∧ sv = .int .i64 n ∧ n ≤ 20000 * k ∧ Hid (n = (flt l k).length) ∧ Hid (togF (lsAbs l) = togF (lsAbs (l.drop k))) ∧ Below w.heap.size w wr) (fun _ iv _ _ => l.length - (intOf iv).toNat)
    case atStart => exact ⟨0, 0, rfl, Nat.zero_le _, rfl, by omega, Lib.hid (by rw [HF0.out]; rfl), Lib.hid rfl, Below.refl _ _⟩
    case round =>
      obtain ⟨k, n, rfl, hk, rfl, hn, HN, HT, hbw⟩ := hrel
      have HBW := Lib.hid hbw
      by_cases hlt : k < l.length
      · obtain ⟨b, o, s, rfl, hb, hs, q, hrs, _⟩ := (HR.out.old hbw).at hlt
        have HS := Lib.hid (flt_succ hs)
        have HST := Lib.hid (togF_step hs)
        have HCK := Lib.hid (r7Times_any s.A s.c s.zs wr hrs (HZ.out s (List.mem_of_getElem? hs)))
        have HQ := Lib.hid (show ∀ Y, Below wr.heap.size wr Y → Y.cell? ⟨b, o + k, none⟩ = some (.slice s.A s.zs.length s.c) from fun Y hY => (hY.cell (p := ⟨b, o + k, none⟩) hb).trans q)
        by_cases hc : codeT s.zs = 0
        · have hsl := (codeT_ok hc).le
          rw [hc] at HCK
          have HT2 := Lib.hid (show togF (lsAbs l) = togF (lsAbs (l.drop (k + 1))) by rw [HT.out, HST.out, if_neg (by rw [hc]; simp)])
          have HN2 := Lib.hid (show n + s.zs.length = (flt l (k + 1)).length by rw [HS.out, List.length_append, HN.out])
          clear hs hrs hbw hc
          go_wp2_with fail
          (with_reducible refine HCK.out.mono ?_)
          rintro e w2 ⟨rfl, hb2⟩
          have HB2 := Lib.hid (below_next HBW.out hb2)
          have q2 := HQ.out w2 hb2
          clear hb2
          go_wp2
          go_roundw
          case rel => exact ⟨k + 1, n + s.zs.length, by go_num, by omega, by go_num, by omega, HN2, HT2, HB2.out⟩
          case measure => simp [intOf]; omega
        · obtain ⟨cc, hcc⟩ : ∃ cc, cc = codeT s.zs := ⟨_, rfl⟩
          have HE := Lib.hid (togC_fault (c := cc) H1.out (by rw [HT.out, HST.out, if_pos hc, hcc]) (by rw [hcc]; exact hc))
          rw [← hcc] at HCK hc
          have t2 : (cc != 0) = true := by simpa using hc
          clear hs hrs hbw hcc HST
          go_wp2_with fail
          (with_reducible refine HCK.out.mono ?_)
          rintro e w2 ⟨rfl, hb2⟩
          have HB2 := Lib.hid (below_next HBW.out hb2)
          clear hb2
          go_wp2
          go_ret
          exact ⟨by rw [HE.out.1]; rfl, HB2.out⟩
      · obtain rfl : k = l.length := by omega
        have HT0 := Lib.hid (show togF (lsAbs l) = 0 by rw [HT.out, List.drop_of_length_le (Nat.le_refl _)]; rfl)
        have HNF := Lib.hid (show n = (lsAbs l).flatten.length by rw [← HFA.out]; exact HN.out)
        by_cases h2 : 20000 < n
        · have HE := Lib.hid (togC_long H1.out HT0.out (by rw [← HNF.out]; exact h2))
          have t2 : decide (20000 < (n : Int)) = true := by simp; omega
          have t3 : decide (20000 < n) = true := by simpa using h2
          clear hbw h2
          go_wp2
          go_ret
          exact ⟨by rw [HE.out.1]; rfl, HBW.out⟩
        · have HE := Lib.hid (togC_ok H1.out HT0.out (by rw [← HNF.out]; exact h2))
          have t2 : decide (20000 < (n : Int)) = false := by simp; omega
          have t3 : decide (20000 < n) = false := by simpa using h2
          clear hbw h2
          go_wp2
          go_ret
          exact ⟨by rw [HE.out.1]; rfl, HBW.out⟩
theorem togC_zero {z : List (List Int)} (h : togC z = 0) : z.length ≤ 100 ∧ z.flatten.length ≤ 20000 ∧ togR z = srtZ z.flatten := by
  have h' := h
  unfold togC at h
  split at h
  · omega
  · split at h
    · rename_i h2; exact absurd h h2
    · split at h
      · omega
      · exact ⟨by omega, by omega, by unfold togR; rw [if_pos h']⟩
set_option maxHeartbeats 2000000 in
set_option maxRecDepth 100000 in
theorem r7Together_any (A : Option Addr) (c : Nat) (l : List Ls) (w : World) (hr : LsR w w.heap.size A l.length l) (hll : l.length ≤ 9223372036854775807) (hz : ∀ h ∈ l, h.zs.length ≤ 9223372036854775807) :
    Calls Tryd.prog 35 #[.slice A l.length c] w fun e w' => ∃ A' c', e = .returned (.tuple #[.slice A' (togR (lsAbs l)).length c', .int .i64 (togC (lsAbs l))]) ∧ Rd w' 0 w'.heap.size 1 A' (togR (lsAbs l)).length (ints (togR (lsAbs l))) ∧ Below w.heap.size w w' := by
  have HF := Lib.hid (r7TogF_any A c l w hr hll hz)
  by_cases hc : togC (lsAbs l) = 0
  · obtain ⟨g1, g2, g3⟩ := togC_zero hc
    rw [lsAbs_length] at g1
    have HG := Lib.hid g3
    have HC := Lib.hid hc
    have HFL := Lib.hid (fun W (hb : Below w.heap.size w W) => r7Flat_any A c l W (hr.old hb) g1 g2)
    rw [hc] at HF
    clear hr hz hc g3
    go_enter Tryd.func35, Tryd.ntmps35
    go_wp2_with fail
    (with_reducible refine HF.out.mono ?_)
    rintro e w1 ⟨rfl, hb1⟩
    have HB1 := Lib.hid hb1
    clear hb1
    go_wp2_with fail
    (with_reducible refine (HFL.out _ HB1.out).mono ?_)
    rintro e w2 ⟨A', c', rfl, hrd, hb2⟩
    have HRD := Lib.hid hrd
    have HB2 := Lib.hid (below_next HB1.out hb2)
    clear hrd hb2
    go_wp2
    go_ret2
    exact ⟨A', c', by rw [HC.out, HG.out]; rfl, by rw [HG.out]; exact HRD.out, HB2.out⟩
  · obtain ⟨cc, hcc⟩ : ∃ cc, cc = togC (lsAbs l) := ⟨_, rfl⟩
    have HL := Lib.hid (show togR (lsAbs l) = [] by unfold togR; rw [if_neg hc])
    have HE := Lib.hid hcc
    rw [← hcc] at HF hc
    have t1 : (cc != 0) = true := by simpa using hc
    clear hr hz hcc
    go_enter Tryd.func35, Tryd.ntmps35
    go_wp2_with fail
    (with_reducible refine HF.out.mono ?_)
    rintro e w1 ⟨rfl, hb1⟩
    go_wp2
    go_ret2
    exact ⟨none, 0, by rw [← HE.out, HL.out]; rfl, by rw [HL.out]; exact Rd.nil, hb1⟩
end Go.Proofs.YtkoodmoilfgafaaDoor

/- Part: the program's and the reference's. Printed by gen_part.py. -/
namespace Go.Proofs.YtkoodmoilfgafaaDoor
open Go Go.RowKit Go.Proofs

theorem partU_len (ts : List Int) (k n m : Nat) : (partU ts k n m).length ≤ m := by
  unfold partU
  rw [List.length_map]
  have := List.length_filter_le (fun i => i % n == k) (List.range m)
  simpa using this
def partOk (k n : Int) : Prop := 1 ≤ n ∧ n ≤ 100 ∧ 0 ≤ k ∧ k < n
instance (k n : Int) : Decidable (partOk k n) := by unfold partOk; infer_instance
def partC (ts : List Int) (k n : Int) : Int := if codeT ts ≠ 0 then codeT ts else if partOk k n then 0 else 9
def partR (ts : List Int) (k n : Int) : List Int := if partC ts k n = 0 then partL ts k.toNat n.toNat else []
set_option maxHeartbeats 2000000 in
set_option maxRecDepth 100000 in
theorem divide_any (A : Option Addr) (c : Nat) (ts : List Int) (k n : Nat) (w : World) (hr : Rd w 0 w.heap.size 1 A ts.length (ints ts)) (hl : ts.length ≤ 20000) (hk : k < n) (hn : n ≤ 100) :
    Calls Tryd.prog 72 #[.slice A ts.length c, .int .i64 k, .int .i64 n] w fun e w' => ∃ A' c', e = .returned (.slice A' (partL ts k n).length c') ∧ Rd w' w.heap.size w'.heap.size 1 A' (partL ts k n).length (ints (partL ts k n)) ∧ (A' = none → (partL ts k n).length = 0 ∧ c' = 0) ∧ Below w.heap.size w w' := by
  obtain ⟨i0, hi0, hz0, hz1, hz2⟩ := info_parts Tryd.infoI4
  have HR := Lib.hid hr
  clear hr
  have HS0 := Lib.hid (partU_start ts hk (Nat.min_le_left k ts.length))
  go_enter Tryd.func72, Tryd.ntmps72
  go_wp2_with fail
  go_loopw [7, 8] (fun ov iv wr => ∃ p j : Nat, Hid (p = k + j * n) ∧ iv = .int .i64 p ∧ p ≤ ts.length + 200 ∧ wr.ownsRow w.heap.size 3 1 ov (partU ts k n (min p ts.length)).length (ints (partU ts k n (min p ts.length))) ∧ Below w.heap.size w wr) (fun _ iv _ => ts.length + 200 - (intOf iv).toNat)
  case atStart => exact ⟨k, 0, Lib.hid (by omega), rfl, by omega, by rw [HS0.out]; exact ⟨by simp [ints], .inl ⟨rfl, rfl⟩⟩, Below.refl _ _⟩
  case round =>
    obtain ⟨p, j, HP, rfl, hp, hown, hbw⟩ := hrel
    have HBW := Lib.hid hbw
    have hsz := hbw.size
    by_cases hlt : p < ts.length
    · have HST := Lib.hid (show partU ts k n (min (p + n) ts.length) = partU ts k n (min p ts.length) ++ [ts.getD p 0] by
        have := partU_step ts (j := j) (d := min n (ts.length - p)) hk (by omega) (by omega)
        rw [← HP.out] at this
        rw [show min (p + n) ts.length = p + min n (ts.length - p) by omega, this, show min p ts.length = p by omega])
      obtain ⟨b, o, u, rfl, hb, hu, qk⟩ := (HR.out.below hbw (Nat.le_refl _)).at1 hlt
      obtain ⟨t, ht, rfl⟩ := ints_get hu
      have hgd : ts.getD p 0 = t := by rw [List.getD_eq_getElem?_getD, ht]; rfl
      rw [hgd] at HST
      have hpl := partU_len ts k n (min p ts.length)
      obtain ⟨L, hL⟩ : ∃ L, L = partU ts k n (min p ts.length) := ⟨_, rfl⟩
      rw [← hL] at HST hown hpl
      have HOW := Lib.hid hown
      have HN := Lib.hid (show p + n = k + (j + 1) * n by rw [HP.out, Nat.add_mul]; omega)
      clear hu ht hgd hL hown hbw
      go_wp2_with (at_builtin; refine wpList_append_own _ rfl (.tmp 17) (.tmp 22) 28 rfl w.heap.size 3 i0 _ 1 8 Tryd.underlying28 hi0 hz0 hz1 hz2 rfl (by decide) _ L.length (ints L) rfl (HOW.out.alloc _) ⟨wr.heap.size, 0, none⟩ 1 1 [.int .i64 t] rfl rfl (cell_one_new wr _ 3) (by simp [Value.oneCell']) (by unfold maxLen; omega) (by omega) (by simp; omega) ?_)
      intro v' w6 hown6 hgr6 _
      have HB6 := Lib.hid (show Below w.heap.size w w6 from (HBW.out.alloc (by omega) _).trans ((Fr.of_grown hgr6).below (B := w.heap.size) (by simp; omega) (fun i hi hm => by have := (ownsRow_block HOW.out hm).1; omega)))
      have HO6 := Lib.hid (show w6.ownsRow w.heap.size 3 1 v' (partU ts k n (min (p + n) ts.length)).length (ints (partU ts k n (min (p + n) ts.length))) by rw [HST.out, List.length_append]; unfold ints at *; rw [List.map_append]; exact hown6)
      clear hown6 hgr6
      go_wp2
      go_roundw
      case rel => exact ⟨p + n, j + 1, HN, by go_num, by omega, HO6.out, HB6.out⟩
      case measure => simp [intOf]; omega
    · have HM := Lib.hid (show partU ts k n (min p ts.length) = partL ts k n by unfold partL; congr 1; omega)
      rw [HM.out] at hown
      obtain ⟨A', c', rfl, hc1, _, hA0⟩ := ownsRow_shape hown
      have HRD := Lib.hid (Rd.of_own hown)
      have HA0 := Lib.hid hA0
      have HLP := Lib.hid (show (partL ts k n).length = (partL ts k n).length from rfl)
      clear hown hbw hA0
      have HCL := Lib.hid (fun W => clipInts_any A' (partL ts k n).length c' W hc1)
      go_wp2_with fail
      (with_reducible refine (HCL.out _).mono ?_)
      rintro e w9 ⟨rfl, rfl⟩
      go_wp2
      go_ret
      exact ⟨A', _, rfl, HRD.out, fun h => by have := (HA0.out h).1; simpa using this, HBW.out⟩
set_option maxHeartbeats 2000000 in
set_option maxRecDepth 100000 in
theorem r7part_any (A : Option Addr) (c : Nat) (ts : List Int) (k n : Nat) (w : World) (hr : Rd w 0 w.heap.size 1 A ts.length (ints ts)) (hl : ts.length ≤ 20000) (hk : k < n) (hn : n ≤ 100) :
    Calls Tryd.prog 74 #[.slice A ts.length c, .int .i64 k, .int .i64 n] w fun e w' => ∃ A' c', e = .returned (.slice A' (partL ts k n).length c') ∧ Rd w' w.heap.size w'.heap.size 1 A' (partL ts k n).length (ints (partL ts k n)) ∧ (A' = none → (partL ts k n).length = 0 ∧ c' = 0) ∧ Below w.heap.size w w' := by
  obtain ⟨i0, hi0, hz0, hz1, hz2⟩ := info_parts Tryd.infoI4
  have HR := Lib.hid hr
  clear hr
  have HS0 := Lib.hid (partU_start ts hk (Nat.min_le_left k ts.length))
  go_enter Tryd.func74, Tryd.ntmps74
  go_wp2_with fail
  go_loopw [7, 8] (fun ov iv wr => ∃ p j : Nat, Hid (p = k + j * n) ∧ iv = .int .i64 p ∧ p ≤ ts.length + 200 ∧ wr.ownsRow w.heap.size 3 1 ov (partU ts k n (min p ts.length)).length (ints (partU ts k n (min p ts.length))) ∧ Below w.heap.size w wr) (fun _ iv _ => ts.length + 200 - (intOf iv).toNat)
  case atStart => exact ⟨k, 0, Lib.hid (by omega), rfl, by omega, by rw [HS0.out]; exact ⟨by simp [ints], .inl ⟨rfl, rfl⟩⟩, Below.refl _ _⟩
  case round =>
    obtain ⟨p, j, HP, rfl, hp, hown, hbw⟩ := hrel
    have HBW := Lib.hid hbw
    have hsz := hbw.size
    by_cases hlt : p < ts.length
    · have HST := Lib.hid (show partU ts k n (min (p + n) ts.length) = partU ts k n (min p ts.length) ++ [ts.getD p 0] by
        have := partU_step ts (j := j) (d := min n (ts.length - p)) hk (by omega) (by omega)
        rw [← HP.out] at this
        rw [show min (p + n) ts.length = p + min n (ts.length - p) by omega, this, show min p ts.length = p by omega])
      obtain ⟨b, o, u, rfl, hb, hu, qk⟩ := (HR.out.below hbw (Nat.le_refl _)).at1 hlt
      obtain ⟨t, ht, rfl⟩ := ints_get hu
      have hgd : ts.getD p 0 = t := by rw [List.getD_eq_getElem?_getD, ht]; rfl
      rw [hgd] at HST
      have hpl := partU_len ts k n (min p ts.length)
      obtain ⟨L, hL⟩ : ∃ L, L = partU ts k n (min p ts.length) := ⟨_, rfl⟩
      rw [← hL] at HST hown hpl
      have HOW := Lib.hid hown
      have HN := Lib.hid (show p + n = k + (j + 1) * n by rw [HP.out, Nat.add_mul]; omega)
      clear hu ht hgd hL hown hbw
      go_wp2_with (at_builtin; refine wpList_append_own _ rfl (.tmp 17) (.tmp 22) 28 rfl w.heap.size 3 i0 _ 1 8 Tryd.underlying28 hi0 hz0 hz1 hz2 rfl (by decide) _ L.length (ints L) rfl (HOW.out.alloc _) ⟨wr.heap.size, 0, none⟩ 1 1 [.int .i64 t] rfl rfl (cell_one_new wr _ 3) (by simp [Value.oneCell']) (by unfold maxLen; omega) (by omega) (by simp; omega) ?_)
      intro v' w6 hown6 hgr6 _
      have HB6 := Lib.hid (show Below w.heap.size w w6 from (HBW.out.alloc (by omega) _).trans ((Fr.of_grown hgr6).below (B := w.heap.size) (by simp; omega) (fun i hi hm => by have := (ownsRow_block HOW.out hm).1; omega)))
      have HO6 := Lib.hid (show w6.ownsRow w.heap.size 3 1 v' (partU ts k n (min (p + n) ts.length)).length (ints (partU ts k n (min (p + n) ts.length))) by rw [HST.out, List.length_append]; unfold ints at *; rw [List.map_append]; exact hown6)
      clear hown6 hgr6
      go_wp2
      go_roundw
      case rel => exact ⟨p + n, j + 1, HN, by go_num, by omega, HO6.out, HB6.out⟩
      case measure => simp [intOf]; omega
    · have HM := Lib.hid (show partU ts k n (min p ts.length) = partL ts k n by unfold partL; congr 1; omega)
      rw [HM.out] at hown
      obtain ⟨A', c', rfl, hc1, _, hA0⟩ := ownsRow_shape hown
      have HRD := Lib.hid (Rd.of_own hown)
      have HA0 := Lib.hid hA0
      have HLP := Lib.hid (show (partL ts k n).length = (partL ts k n).length from rfl)
      clear hown hbw hA0
      go_wp2
      go_ret
      exact ⟨A', c', rfl, HRD.out, fun h => by have := HA0.out h; simpa using this, HBW.out⟩
set_option maxHeartbeats 2000000 in
set_option maxRecDepth 100000 in
theorem part_any (A : Option Addr) (c : Nat) (ts : List Int) (k n : Int) (w : World) (hr : Rd w 0 w.heap.size 1 A ts.length (ints ts)) (hl : ts.length ≤ 9223372036854775807) :
    Calls Tryd.prog 30 #[.slice A ts.length c, .int .i64 k, .int .i64 n] w fun e w' => ∃ A' c', e = .returned (.tuple #[.slice A' (partR ts k n).length c', .int .i64 (partC ts k n)]) ∧ Rd w' w.heap.size w'.heap.size 1 A' (partR ts k n).length (ints (partR ts k n)) ∧ (A' = none → (partR ts k n).length = 0 ∧ c' = 0) ∧ Below w.heap.size w w' := by
  have HCK := Lib.hid (checkTimes_any A c ts w hr hl)
  have HR := Lib.hid hr
  clear hr
  by_cases hc : codeT ts = 0
  · have hn := (codeT_ok hc).le
    by_cases hg : partOk k n
    · have HC := Lib.hid (show partC ts k n = 0 by unfold partC; rw [if_neg (by omega), if_pos hg])
      have HL := Lib.hid (show partR ts k n = partL ts k.toNat n.toNat by unfold partR; rw [if_pos HC.out])
      rw [hc] at HCK
      obtain ⟨g1, g2, g3, g4⟩ := hg
      obtain ⟨K, rfl⟩ := Int.eq_ofNat_of_zero_le g3
      obtain ⟨N, rfl⟩ := Int.eq_ofNat_of_zero_le (show 0 ≤ n by omega)
      rw [Int.toNat_natCast, Int.toNat_natCast] at HL
      have t1 : decide ((N : Int) < 1) = false := by simp; omega
      have t2 : decide (100 < (N : Int)) = false := by simp; omega
      have t3 : decide ((K : Int) < 0) = false := by simp
      have t4 : decide (N ≤ K) = false := by simp; omega
      have t5 : decide ((N : Int) ≤ (K : Int)) = false := by simp; omega
      have HD := Lib.hid (fun W (hb : Below w.heap.size w W) => divide_any A c ts K N W (HR.out.old hb) hn (by omega) (by omega))
      clear hc g1 g2 g3 g4
      go_enter Tryd.func30, Tryd.ntmps30
      go_wp2_with fail
      (with_reducible refine HCK.out.mono ?_)
      rintro e w1 ⟨rfl, hb1⟩
      have HB1 := Lib.hid hb1
      clear hb1
      go_wp2_with fail
      (with_reducible refine (HD.out _ HB1.out).mono ?_)
      rintro e w2 ⟨A', c', rfl, hrd, hA, hb2⟩
      have HB2 := Lib.hid (below_next HB1.out hb2)
      have HRD := Lib.hid (hrd.more HB1.out.size (Nat.le_refl _))
      have HA := Lib.hid hA
      clear hrd hb2 hA
      go_wp2
      go_ret2
      exact ⟨A', c', by rw [HC.out, HL.out]; rfl, by rw [HL.out]; exact HRD.out, by rw [HL.out]; exact HA.out, HB2.out⟩
    · have HC := Lib.hid (show partC ts k n = 9 by unfold partC; rw [if_neg (by omega), if_neg hg])
      have HL := Lib.hid (show partR ts k n = [] by unfold partR; rw [if_neg (by rw [HC.out]; omega)])
      rw [hc] at HCK
      have hbad : decide (n < 1) = true ∨ (decide (n < 1) = false ∧ decide (100 < n) = true) ∨ (decide (n < 1) = false ∧ decide (100 < n) = false ∧ decide (k < 0) = true) ∨ (decide (n < 1) = false ∧ decide (100 < n) = false ∧ decide (k < 0) = false ∧ decide (n ≤ k) = true) := by
        unfold partOk at hg; simp; omega
      clear hc hg
      rcases hbad with t1 | ⟨t1, t2⟩ | ⟨t1, t2, t3⟩ | ⟨t1, t2, t3, t4⟩
      all_goals go_enter Tryd.func30, Tryd.ntmps30
      all_goals go_wp2_with fail
      all_goals (with_reducible refine HCK.out.mono ?_)
      all_goals rintro e w1 ⟨rfl, hb1⟩
      all_goals go_wp2
      all_goals go_ret2
      all_goals exact ⟨none, 0, by rw [HC.out, HL.out]; rfl, by rw [HL.out]; exact Rd.nil, fun _ => by rw [HL.out]; exact ⟨rfl, rfl⟩, hb1⟩
  · obtain ⟨cc, hcc⟩ : ∃ cc, cc = codeT ts := ⟨_, rfl⟩
    have HE := Lib.hid (show partC ts k n = cc by unfold partC; rw [if_pos hc, hcc])
    rw [← hcc] at HCK hc
    have t1 : (cc != 0) = true := by simpa using hc
    have HEL := Lib.hid (show partR ts k n = [] by unfold partR; rw [HE.out, if_neg hc])
    clear hcc
    go_enter Tryd.func30, Tryd.ntmps30
    go_wp2_with fail
    (with_reducible refine HCK.out.mono ?_)
    rintro e w1 ⟨rfl, hb1⟩
    go_wp2
    go_ret2
    exact ⟨none, 0, by rw [HE.out, HEL.out]; rfl, by rw [HEL.out]; exact Rd.nil, fun _ => by rw [HEL.out]; exact ⟨rfl, rfl⟩, hb1⟩
set_option maxHeartbeats 2000000 in
set_option maxRecDepth 100000 in
theorem r7Part_any (A : Option Addr) (c : Nat) (ts : List Int) (k n : Int) (w : World) (hr : Rd w 0 w.heap.size 1 A ts.length (ints ts)) (hl : ts.length ≤ 9223372036854775807) :
    Calls Tryd.prog 34 #[.slice A ts.length c, .int .i64 k, .int .i64 n] w fun e w' => ∃ A' c', e = .returned (.tuple #[.slice A' (partR ts k n).length c', .int .i64 (partC ts k n)]) ∧ Rd w' w.heap.size w'.heap.size 1 A' (partR ts k n).length (ints (partR ts k n)) ∧ (A' = none → (partR ts k n).length = 0 ∧ c' = 0) ∧ Below w.heap.size w w' := by
  have HCK := Lib.hid (r7Times_any A c ts w hr hl)
  have HR := Lib.hid hr
  clear hr
  by_cases hc : codeT ts = 0
  · have hn := (codeT_ok hc).le
    by_cases hg : partOk k n
    · have HC := Lib.hid (show partC ts k n = 0 by unfold partC; rw [if_neg (by omega), if_pos hg])
      have HL := Lib.hid (show partR ts k n = partL ts k.toNat n.toNat by unfold partR; rw [if_pos HC.out])
      rw [hc] at HCK
      obtain ⟨g1, g2, g3, g4⟩ := hg
      obtain ⟨K, rfl⟩ := Int.eq_ofNat_of_zero_le g3
      obtain ⟨N, rfl⟩ := Int.eq_ofNat_of_zero_le (show 0 ≤ n by omega)
      rw [Int.toNat_natCast, Int.toNat_natCast] at HL
      have t1 : decide ((N : Int) < 1) = false := by simp; omega
      have t2 : decide (100 < (N : Int)) = false := by simp; omega
      have t3 : decide ((K : Int) < 0) = false := by simp
      have t4 : decide (N ≤ K) = false := by simp; omega
      have t5 : decide ((N : Int) ≤ (K : Int)) = false := by simp; omega
      have HD := Lib.hid (fun W (hb : Below w.heap.size w W) => r7part_any A c ts K N W (HR.out.old hb) hn (by omega) (by omega))
      clear hc g1 g2 g3 g4
      go_enter Tryd.func34, Tryd.ntmps34
      go_wp2_with fail
      (with_reducible refine HCK.out.mono ?_)
      rintro e w1 ⟨rfl, hb1⟩
      have HB1 := Lib.hid hb1
      clear hb1
      go_wp2_with fail
      (with_reducible refine (HD.out _ HB1.out).mono ?_)
      rintro e w2 ⟨A', c', rfl, hrd, hA, hb2⟩
      have HB2 := Lib.hid (below_next HB1.out hb2)
      have HRD := Lib.hid (hrd.more HB1.out.size (Nat.le_refl _))
      have HA := Lib.hid hA
      clear hrd hb2 hA
      go_wp2
      go_ret2
      exact ⟨A', c', by rw [HC.out, HL.out]; rfl, by rw [HL.out]; exact HRD.out, by rw [HL.out]; exact HA.out, HB2.out⟩
    · have HC := Lib.hid (show partC ts k n = 9 by unfold partC; rw [if_neg (by omega), if_neg hg])
      have HL := Lib.hid (show partR ts k n = [] by unfold partR; rw [if_neg (by rw [HC.out]; omega)])
      rw [hc] at HCK
      have hbad : decide (n < 1) = true ∨ (decide (n < 1) = false ∧ decide (100 < n) = true) ∨ (decide (n < 1) = false ∧ decide (100 < n) = false ∧ decide (k < 0) = true) ∨ (decide (n < 1) = false ∧ decide (100 < n) = false ∧ decide (k < 0) = false ∧ decide (n ≤ k) = true) := by
        unfold partOk at hg; simp; omega
      clear hc hg
      rcases hbad with t1 | ⟨t1, t2⟩ | ⟨t1, t2, t3⟩ | ⟨t1, t2, t3, t4⟩
      all_goals go_enter Tryd.func34, Tryd.ntmps34
      all_goals go_wp2_with fail
      all_goals (with_reducible refine HCK.out.mono ?_)
      all_goals rintro e w1 ⟨rfl, hb1⟩
      all_goals go_wp2
      all_goals go_ret2
      all_goals exact ⟨none, 0, by rw [HC.out, HL.out]; rfl, by rw [HL.out]; exact Rd.nil, fun _ => by rw [HL.out]; exact ⟨rfl, rfl⟩, hb1⟩
  · obtain ⟨cc, hcc⟩ : ∃ cc, cc = codeT ts := ⟨_, rfl⟩
    have HE := Lib.hid (show partC ts k n = cc by unfold partC; rw [if_pos hc, hcc])
    rw [← hcc] at HCK hc
    have t1 : (cc != 0) = true := by simpa using hc
    have HEL := Lib.hid (show partR ts k n = [] by unfold partR; rw [HE.out, if_neg hc])
    clear hcc
    go_enter Tryd.func34, Tryd.ntmps34
    go_wp2_with fail
    (with_reducible refine HCK.out.mono ?_)
    rintro e w1 ⟨rfl, hb1⟩
    go_wp2
    go_ret2
    exact ⟨none, 0, by rw [HE.out, HEL.out]; rfl, by rw [HEL.out]; exact Rd.nil, fun _ => by rw [HEL.out]; exact ⟨rfl, rfl⟩, hb1⟩
end Go.Proofs.YtkoodmoilfgafaaDoor

/- Share: the program's and the reference's. -/
namespace Go.Proofs.YtkoodmoilfgafaaDoor
open Go Go.RowKit Go.Proofs

/-- the list after j steps -/
def shB (k n : Int) (N j : Nat) : List Int := (List.range N).map fun i => if i < j then shareE k n i else 0
theorem shB_zero (k n : Int) (N : Nat) : shB k n N 0 = List.replicate N 0 := by
  apply List.ext_getElem
  · simp [shB]
  · intro i h1 h2; simp [shB]
theorem shB_get {k n : Int} {N j : Nat} (h : j < N) : (shB k n N j)[j]? = some 0 := by
  unfold shB; rw [List.getElem?_map, List.getElem?_range h]; simp
theorem shB_step {k n : Int} {N j : Nat} : (shB k n N j).set j (shareE k n j) = shB k n N (j + 1) := by
  apply List.ext_getElem
  · simp [shB]
  · intro i h1 h2
    rw [List.getElem_set]
    simp only [shB, List.getElem_map, List.getElem_range]
    by_cases h : j = i
    · subst h; simp
    · rw [if_neg h]
      by_cases h' : i < j
      · rw [if_pos h', if_pos (by omega)]
      · rw [if_neg h', if_neg (by omega)]
theorem shB_end (k n : Int) (N : Nat) : shB k n N N = (List.range N).map (shareE k n) := by
  unfold shB
  apply List.map_congr_left
  intro i hi
  rw [if_pos (List.mem_range.1 hi)]
def shareR (k n : Int) : List Int := if shareC k n = 0 then shareL k n else []
theorem shareR_ok {k : Int} {N : Nat} (h : shareC k N = 0) : shareR k N = (List.range N).map (shareE k N) := by
  unfold shareR shareL; rw [if_pos h]; simp
theorem share_div {k : Int} {N : Nat} (h0 : 0 ≤ k) (h1 : k ≤ 1000000000000) (_hN : 1 ≤ N) : 0 ≤ k / (N : Int) ∧ k / (N : Int) ≤ 1000000000000 ∧ 0 ≤ k / (N : Int) * N ∧ k / (N : Int) * N ≤ 1000000000000 ∧ k - k / (N : Int) * N = k % N := by
  have e := Int.emod_add_mul_ediv k N
  have e1 := Int.emod_nonneg k (show (N : Int) ≠ 0 by omega)
  have e2 : 0 ≤ k / (N : Int) := Int.ediv_nonneg h0 (by omega)
  have e3 := Int.ediv_le_self (N : Int) h0
  have e4 : 0 ≤ k / (N : Int) * N := Int.mul_nonneg e2 (by omega)
  rw [Int.mul_comm] at e
  omega
theorem share_bad {k n : Int} (h : ¬ shareC k n = 0) : shareC k n = 9 ∧ shareR k n = [] ∧ (decide (k < 0) = true ∨ (decide (k < 0) = false ∧ decide (1000000000000 < k) = true) ∨ (decide (k < 0) = false ∧ decide (1000000000000 < k) = false ∧ decide (n < 1) = true) ∨ (decide (k < 0) = false ∧ decide (1000000000000 < k) = false ∧ decide (n < 1) = false ∧ decide (100 < n) = true)) := by
  refine ⟨?_, by unfold shareR; rw [if_neg h], ?_⟩
  · unfold shareC at *; split <;> simp_all
  · unfold shareC at h; simp; split at h
    · omega
    · omega
theorem share_good {k n : Int} (h : shareC k n = 0) : 0 ≤ k ∧ k ≤ 1000000000000 ∧ 1 ≤ n ∧ n ≤ 100 := by
  unfold shareC at h; split at h <;> omega

set_option maxHeartbeats 2000000 in
set_option maxRecDepth 100000 in
theorem share_any (k n : Int) (w : World) :
    Calls Tryd.prog 32 #[.int .i64 k, .int .i64 n] w fun e w' => ∃ A' c', e = .returned (.tuple #[.slice A' (shareR k n).length c', .int .i64 (shareC k n)]) ∧ Rd w' 0 w'.heap.size 1 A' (shareR k n).length (ints (shareR k n)) ∧ Below w.heap.size w w' := by
  obtain ⟨i0, hi0, hz0, hz1, hz2⟩ := info_parts Tryd.infoI4
  by_cases hc : shareC k n = 0
  · obtain ⟨h0, h1, h2, h3⟩ := share_good hc
    obtain ⟨N, rfl⟩ := Int.eq_ofNat_of_zero_le (show 0 ≤ n by omega)
    have hN1 : 1 ≤ N := by omega
    have hN2 : N ≤ 100 := by omega
    obtain ⟨d0, d1, _, _, _⟩ := share_div h0 h1 hN1
    have HC := Lib.hid hc
    have HL := Lib.hid ((shareR_ok hc).trans (shB_end k N N).symm)
    have t1 : decide (k < 0) = false := by simp; omega
    have t2 : decide (1000000000000 < k) = false := by simp; omega
    have t3 : decide ((N : Int) < 1) = false := by simp; omega
    have t4 : decide (100 < (N : Int)) = false := by simp; omega
    have hne : ¬ (N : Int) = 0 := by omega
    clear hc h2 h3
    go_enter Tryd.func32, Tryd.ntmps32
    go_wp2_with (at_make; refine wpList_make_full _ rfl (.tmp 22) (.tmp 22) 28 rfl w.heap.size 3 i0 _ 1 Tryd.underlying28 hi0 hz0 hz1 .i64 .i64 _ _ N rfl rfl ?m1 ?m2 ?m3 ?m4 ?m5 ?_)
    case m1 => rfl
    case m2 => rfl
    case m3 => rw [hz2]; omega
    case m4 => unfold maxLen; omega
    case m5 => exact Nat.le_refl _
    intro w1 hown hgr
    rw [made_zerosI, ← shB_zero k N N] at hown
    obtain ⟨hblk, _⟩ := IBlk.of_own hown
    have hb1 : Below w.heap.size w w1 := (Below.refl _ w).grown hgr (Nat.le_refl _) (fun k hk => by cases hk)
    have HBK := Lib.hid hblk
    have HB1 := Lib.hid hb1
    clear hown hgr hblk hb1
    go_wp2_with fail
    go_loopw [7, 26] (fun _ iv wr => ∃ j : Nat, iv = .int .i64 j ∧ j ≤ N ∧ IBlk wr w.heap.size (shB k N N j) ∧ Below w.heap.size w wr) (fun _ iv _ => N - (intOf iv).toNat)
    case atStart => exact ⟨0, rfl, Nat.zero_le _, HBK.out, HB1.out⟩
    case round =>
      obtain ⟨j, rfl, hj, hblk, hbw⟩ := hrel
      have HBW := Lib.hid hbw
      have hlw := heap_lt hblk
      by_cases hlt : j < N
      · have p1 := hblk.cell (shB_get (k := k) (n := N) hlt)
        have p2 := hblk.frozen j
        by_cases hr : (j : Int) < k % N
        · have t5 : decide ((j : Int) < k % N) = true := by simpa using hr
          have HN := Lib.hid (show IBlk ((wr.setCell ⟨w.heap.size, j, none⟩ (.int .i64 (k / N))).setCell ⟨w.heap.size, j, none⟩ (.int .i64 (k / N + 1))) w.heap.size (shB k N N (j + 1)) by
            have := (hblk.set j (k / N)).set j (k / N + 1)
            rw [List.set_set] at this
            rw [← shB_step, show shareE k N j = k / N + 1 by unfold shareE; rw [if_pos hr]]
            exact this)
          have HB := Lib.hid ((hbw.setCell (p := ⟨w.heap.size, j, none⟩) (Nat.le_refl _) (.int .i64 (k / N))).setCell (p := ⟨w.heap.size, j, none⟩) (Nat.le_refl _) (.int .i64 (k / N + 1)))
          clear hblk hbw hr
          go_wp2
          go_roundw
          case rel => exact ⟨j + 1, by go_num, by omega, HN.out, HB.out⟩
          case measure => simp [intOf]; omega
        · have t5 : decide ((j : Int) < k % N) = false := by simpa using hr
          have HN := Lib.hid (show IBlk (wr.setCell ⟨w.heap.size, j, none⟩ (.int .i64 (k / N))) w.heap.size (shB k N N (j + 1)) by
            rw [← shB_step, show shareE k N j = k / N by unfold shareE; rw [if_neg hr]]
            exact hblk.set j (k / N))
          have HB := Lib.hid (hbw.setCell (p := ⟨w.heap.size, j, none⟩) (Nat.le_refl _) (.int .i64 (k / N)))
          clear hblk hbw hr
          go_wp2
          go_roundw
          case rel => exact ⟨j + 1, by go_num, by omega, HN.out, HB.out⟩
          case measure => simp [intOf]; omega
      · obtain rfl : j = N := by omega
        have HRD := Lib.hid hblk.rd
        clear hblk hbw
        go_wp2
        go_ret2
        refine ⟨some ⟨w.heap.size, 0, none⟩, j, ?_, ?_, HBW.out⟩
        · rw [HC.out, HL.out]; simp [shB]
        · rw [HL.out]; exact HRD.out
  · obtain ⟨e1, e2, hb⟩ := share_bad hc
    have HE := Lib.hid e1
    have HEL := Lib.hid e2
    clear hc e1 e2
    rcases hb with t1 | ⟨t1, t2⟩ | ⟨t1, t2, t3⟩ | ⟨t1, t2, t3, t4⟩
    all_goals go_enter Tryd.func32, Tryd.ntmps32
    all_goals go_wp2
    all_goals go_ret2
    all_goals exact ⟨none, 0, by rw [HE.out, HEL.out]; rfl, by rw [HEL.out]; exact Rd.nil, Below.refl _ _⟩

set_option maxHeartbeats 2000000 in
set_option maxRecDepth 100000 in
theorem r7Share_any (k n : Int) (w : World) :
    Calls Tryd.prog 33 #[.int .i64 k, .int .i64 n] w fun e w' => ∃ A' c', e = .returned (.tuple #[.slice A' (shareR k n).length c', .int .i64 (shareC k n)]) ∧ Rd w' 0 w'.heap.size 1 A' (shareR k n).length (ints (shareR k n)) ∧ Below w.heap.size w w' := by
  obtain ⟨i0, hi0, hz0, hz1, hz2⟩ := info_parts Tryd.infoI4
  by_cases hc : shareC k n = 0
  · obtain ⟨h0, h1, h2, h3⟩ := share_good hc
    obtain ⟨N, rfl⟩ := Int.eq_ofNat_of_zero_le (show 0 ≤ n by omega)
    have hN1 : 1 ≤ N := by omega
    have hN2 : N ≤ 100 := by omega
    obtain ⟨d0, d1, d2, d3, d4⟩ := share_div h0 h1 hN1
    have HC := Lib.hid hc
    have HD := Lib.hid d4
    have HL := Lib.hid (shareR_ok hc)
    have t1 : decide (k < 0) = false := by simp; omega
    have t2 : decide (1000000000000 < k) = false := by simp; omega
    have t3 : decide ((N : Int) < 1) = false := by simp; omega
    have t4 : decide (100 < (N : Int)) = false := by simp; omega
    have hne : ¬ (N : Int) = 0 := by omega
    clear hc h2 h3 d4
    go_enter Tryd.func33, Tryd.ntmps33
    go_wp2_with fail
    go_loopw [6, 7, 8] (fun ov iv _ wr => ∃ j : Nat, iv = .int .i64 j ∧ j ≤ N ∧ wr.ownsRow w.heap.size 3 1 ov j (ints ((List.range j).map (shareE k N))) ∧ Below w.heap.size w wr) (fun _ iv _ _ => N - (intOf iv).toNat)
    case atStart => exact ⟨0, rfl, Nat.zero_le _, ⟨by simp [ints], .inl ⟨rfl, rfl⟩⟩, Below.refl _ _⟩
    case round =>
      obtain ⟨j, rfl, hj, hown, hbw⟩ := hrel
      have HBW := Lib.hid hbw
      have HOW := Lib.hid hown
      have hsz := hbw.size
      by_cases hlt : j < N
      · by_cases hr : (j : Int) < k % N
        · have t5 : decide ((j : Int) < k - k / N * N) = true := by rw [HD.out]; simpa using hr
          have HES := Lib.hid (show ints ((List.range (j + 1)).map (shareE k N)) = ints ((List.range j).map (shareE k N)) ++ [.int .i64 (k / N + 1)] by
            rw [List.range_succ]; simp [ints, shareE, hr])
          clear hown hbw hr
          go_wp2_with (at_builtin; refine wpList_append_own _ rfl (.tmp 40) (.tmp 42) 28 rfl w.heap.size 3 i0 _ 1 8 Tryd.underlying28 hi0 hz0 hz1 hz2 rfl (by decide) _ j _ rfl (HOW.out.alloc _) ⟨wr.heap.size, 0, none⟩ 1 1 [.int .i64 (k / N + 1)] rfl rfl (cell_one_new wr _ 3) (by simp [Value.oneCell']) (by unfold maxLen; omega) (by omega) (by simp; omega) ?_)
          intro v' w6 hown6 hgr6 _
          have HB6 := Lib.hid (show Below w.heap.size w w6 from (HBW.out.alloc (by omega) _).trans ((Fr.of_grown hgr6).below (B := w.heap.size) (by simp; omega) (fun i hi hm => by have := (ownsRow_block HOW.out hm).1; omega)))
          have HO6 := Lib.hid (show w6.ownsRow w.heap.size 3 1 v' (j + 1) (ints ((List.range (j + 1)).map (shareE k N))) by rw [HES.out]; exact hown6)
          clear hown6 hgr6
          go_wp2
          go_roundw
          case rel => exact ⟨j + 1, by go_num, by omega, HO6.out, HB6.out⟩
          case measure => simp [intOf]; omega
        · have t5 : decide ((j : Int) < k - k / N * N) = false := by rw [HD.out]; simpa using hr
          have HES := Lib.hid (show ints ((List.range (j + 1)).map (shareE k N)) = ints ((List.range j).map (shareE k N)) ++ [.int .i64 (k / N)] by
            rw [List.range_succ]; simp [ints, shareE, hr])
          clear hown hbw hr
          go_wp2_with (at_builtin; refine wpList_append_own _ rfl (.tmp 40) (.tmp 42) 28 rfl w.heap.size 3 i0 _ 1 8 Tryd.underlying28 hi0 hz0 hz1 hz2 rfl (by decide) _ j _ rfl (HOW.out.alloc _) ⟨wr.heap.size, 0, none⟩ 1 1 [.int .i64 (k / N)] rfl rfl (cell_one_new wr _ 3) (by simp [Value.oneCell']) (by unfold maxLen; omega) (by omega) (by simp; omega) ?_)
          intro v' w6 hown6 hgr6 _
          have HB6 := Lib.hid (show Below w.heap.size w w6 from (HBW.out.alloc (by omega) _).trans ((Fr.of_grown hgr6).below (B := w.heap.size) (by simp; omega) (fun i hi hm => by have := (ownsRow_block HOW.out hm).1; omega)))
          have HO6 := Lib.hid (show w6.ownsRow w.heap.size 3 1 v' (j + 1) (ints ((List.range (j + 1)).map (shareE k N))) by rw [HES.out]; exact hown6)
          clear hown6 hgr6
          go_wp2
          go_roundw
          case rel => exact ⟨j + 1, by go_num, by omega, HO6.out, HB6.out⟩
          case measure => simp [intOf]; omega
      · obtain rfl : j = N := by omega
        obtain ⟨A', c', rfl, _, _, _⟩ := ownsRow_shape hown
        have HRD := Lib.hid ((Rd.of_own hown).more (Nat.zero_le _) (Nat.le_refl _))
        have HLL := Lib.hid (show (shareR k j).length = j by rw [HL.out]; simp)
        clear hown hbw
        go_wp2
        go_ret2
        exact ⟨A', c', by rw [HC.out, HLL.out]; rfl, by rw [HLL.out, HL.out]; exact HRD.out, HBW.out⟩
  · obtain ⟨e1, e2, hb⟩ := share_bad hc
    have HE := Lib.hid e1
    have HEL := Lib.hid e2
    clear hc e1 e2
    rcases hb with t1 | ⟨t1, t2⟩ | ⟨t1, t2, t3⟩ | ⟨t1, t2, t3, t4⟩
    all_goals go_enter Tryd.func33, Tryd.ntmps33
    all_goals go_wp2
    all_goals go_ret2
    all_goals exact ⟨none, 0, by rw [HE.out, HEL.out]; rfl, by rw [HEL.out]; exact Rd.nil, Below.refl _ _⟩
end Go.Proofs.YtkoodmoilfgafaaDoor

/- Pace: the program's and the reference's. -/
namespace Go.Proofs.YtkoodmoilfgafaaDoor
open Go Go.RowKit Go.Proofs

/-- outside what times may be -/
def paceOut (x : Int) : Bool := !decide (0 ≤ x ∧ x ≤ 1000000000000)
theorem paceOut_no {x : Int} (h : paceOut x = false) : 0 ≤ x ∧ x ≤ 1000000000000 := by
  unfold paceOut at h; simpa using h
theorem paceOut_yes {x : Int} (h : paceOut x = true) : decide (x < 0) = true ∨ (decide (x < 0) = false ∧ decide (1000000000000 < x) = true) := by
  unfold paceOut at h; simp at h ⊢; omega
/-- whether a round begins too late -/
def paceLate (b : Int) (tk : List Int) (p : Int) (n : Nat) : Bool := (List.range n).any fun j => decide (1000000000000 < paceB b tk p j)
def paceCd (b : Int) (tk : List Int) (p : Int) : Int :=
  if paceOut b = true then 9 else if 20000 < tk.length then 3 else if tk.any paceOut = true ∨ paceOut p = true then 9 else if paceLate b tk p tk.length = true then 3 else 0
def paceR (b : Int) (tk : List Int) (p : Int) : List Int := if paceCd b tk p = 0 then paceL b tk p tk.length else []
theorem paceR_bad {b : Int} {tk : List Int} {p : Int} (h : paceCd b tk p ≠ 0) : paceR b tk p = [] := by unfold paceR; rw [if_neg h]
theorem paceLate_of {b : Int} {tk : List Int} {p : Int} {k n : Nat} (hk : k < n) (h : 1000000000000 < paceB b tk p k) : paceLate b tk p n = true := by
  unfold paceLate; rw [List.any_eq_true]; exact ⟨k, List.mem_range.2 hk, by simpa using h⟩
theorem paceLate_no {b : Int} {tk : List Int} {p : Int} {n : Nat} (h : ∀ j, j < n → paceB b tk p j ≤ 1000000000000) : paceLate b tk p n = false := by
  unfold paceLate; rw [List.any_eq_false]; intro j hj; simp; exact h j (List.mem_range.1 hj)
theorem paceL_snoc (b : Int) (tk : List Int) (p : Int) (k : Nat) : ints (paceL b tk p (k + 1)) = ints (paceL b tk p k) ++ [.int .i64 (paceB b tk p k)] := by
  unfold paceL ints; rw [List.range_succ]; simp
theorem paceL_length (b : Int) (tk : List Int) (p : Int) (k : Nat) : (paceL b tk p k).length = k := by simp [paceL]
theorem paceB_succ {b : Int} {tk : List Int} {p : Int} {k : Nat} {t : Int} (h : tk[k]? = some t) : paceB b tk p (k + 1) = paceB b tk p k + max t p := by
  rw [paceB, List.getD_eq_getElem?_getD, h]; rfl
theorem any_take_no {tk : List Int} {k : Nat} {t : Int} (h : ∀ x ∈ tk.take k, paceOut x = false) (ht : tk[k]? = some t) (hn : paceOut t = false) : ∀ x ∈ tk.take (k + 1), paceOut x = false := by
  rw [List.take_add_one, ht]
  intro x hx
  rcases List.mem_append.1 hx with hx | hx
  · exact h x hx
  · simp at hx; rw [hx]; exact hn
theorem any_all_no {tk : List Int} {k : Nat} (h : ∀ x ∈ tk.take k, paceOut x = false) (hk : tk.length ≤ k) : tk.any paceOut = false := by
  rw [List.take_of_length_le hk] at h
  rw [List.any_eq_false]; intro x hx; rw [h x hx]; simp
theorem any_yes {tk : List Int} {k : Nat} {t : Int} (ht : tk[k]? = some t) (hn : paceOut t = true) : tk.any paceOut = true := by
  rw [List.any_eq_true]; exact ⟨t, List.mem_of_getElem? ht, hn⟩
theorem any_no_at {tk : List Int} {k : Nat} {t : Int} (h : tk.any paceOut = false) (ht : tk[k]? = some t) : 0 ≤ t ∧ t ≤ 1000000000000 := by
  rw [List.any_eq_false] at h
  have := h t (List.mem_of_getElem? ht)
  exact paceOut_no (by simpa using this)

set_option maxHeartbeats 1000000 in
set_option maxRecDepth 100000 in
theorem paceOut_any (x : Int) (w : World) : Calls Tryd.prog 77 #[.int .i64 x] w fun e w' => e = .returned (.bool (paceOut x)) ∧ w = w' := by
  cases h : paceOut x with
  | false =>
    obtain ⟨h0, h1⟩ := paceOut_no h
    have t1 : decide (x < 0) = false := by simp; omega
    have t2 : decide (1000000000000 < x) = false := by simp; omega
    clear h
    go_enter Tryd.func77, Tryd.ntmps77
    go_wp2
    go_ret
    exact ⟨rfl, by trivial⟩
  | true =>
    rcases paceOut_yes h with t1 | ⟨t1, t2⟩
    all_goals clear h
    all_goals go_enter Tryd.func77, Tryd.ntmps77
    all_goals go_wp2
    all_goals go_ret
    all_goals exact ⟨rfl, by trivial⟩

set_option maxHeartbeats 2000000 in
set_option maxRecDepth 100000 in
theorem indexPace_any (A : Option Addr) (c : Nat) (tk : List Int) (w : World) (hr : Rd w 0 w.heap.size 1 A tk.length (ints tk)) (hl : tk.length ≤ 20000) :
    Calls Tryd.prog 107 #[.slice A tk.length c, .func (.func 77) #[] #[]] w fun e w' => ∃ v : Int, e = .returned (.int .i64 v) ∧ Hid (decide (0 ≤ v) = tk.any paceOut) ∧ Below w.heap.size w w' := by
  have HR := Lib.hid hr
  have HO := Lib.hid (fun x W => paceOut_any x W)
  clear hr
  go_enter Tryd.func107, Tryd.ntmps107
  go_wp2_with fail
  go_loopw [5, 8] (fun _ iv wr => ∃ k : Nat, iv = .int .i64 k ∧ k ≤ tk.length ∧ Hid (∀ x ∈ tk.take k, paceOut x = false) ∧ Below w.heap.size w wr) (fun _ iv _ => tk.length - (intOf iv).toNat)
  case atStart => exact ⟨0, rfl, Nat.zero_le _, Lib.hid (fun x hx => by simp at hx), Below.refl _ _⟩
  case round =>
    obtain ⟨k, rfl, hk, HN, hbw⟩ := hrel
    have HBW := Lib.hid hbw
    by_cases hlt : k < tk.length
    · obtain ⟨b, o, u, rfl, hb, hu, qk⟩ := (HR.out.below hbw (Nat.le_refl _)).at1 hlt
      obtain ⟨t, ht, rfl⟩ := ints_get hu
      have HOT := Lib.hid (fun W => HO.out t W)
      cases hp : paceOut t with
      | true =>
        rw [hp] at HOT
        have HY := Lib.hid (any_yes ht hp)
        clear hu ht hp
        go_wp2_with fail
        (with_reducible refine (HOT.out _).mono ?_)
        rintro e w3 ⟨rfl, rfl⟩
        go_wp2
        go_ret
        exact ⟨(k : Int), rfl, Lib.hid (by rw [HY.out]; simp), HBW.out⟩
      | false =>
        rw [hp] at HOT
        have HY := Lib.hid (any_take_no HN.out ht hp)
        clear hu ht hp
        go_wp2_with fail
        (with_reducible refine (HOT.out _).mono ?_)
        rintro e w3 ⟨rfl, rfl⟩
        go_wp2
        go_roundw
        case rel => exact ⟨k + 1, by go_num, by omega, HY, HBW.out⟩
        case measure => simp [intOf]; omega
    · have HY := Lib.hid (any_all_no HN.out (by omega))
      go_wp2
      go_ret
      exact ⟨-1, rfl, Lib.hid (by rw [HY.out]; simp), HBW.out⟩

set_option maxHeartbeats 1000000 in
set_option maxRecDepth 100000 in
theorem containsPace_any (A : Option Addr) (c : Nat) (tk : List Int) (w : World) (hr : Rd w 0 w.heap.size 1 A tk.length (ints tk)) (hl : tk.length ≤ 20000) :
    Calls Tryd.prog 78 #[.slice A tk.length c, .func (.func 77) #[] #[]] w fun e w' => e = .returned (.bool (tk.any paceOut)) ∧ Below w.heap.size w w' := by
  have HI := Lib.hid (indexPace_any A c tk w hr hl)
  clear hr
  go_enter Tryd.func78, Tryd.ntmps78
  go_wp2_with fail
  (with_reducible refine HI.out.mono ?_)
  rintro e w1 ⟨v, rfl, HV, hb⟩
  go_wp2
  go_ret
  exact ⟨by rw [← HV.out]; rfl, hb⟩

set_option maxHeartbeats 4000000 in
set_option maxRecDepth 100000 in
theorem pace_any (A : Option Addr) (c : Nat) (tk : List Int) (b p : Int) (w : World) (hr : Rd w 0 w.heap.size 1 A tk.length (ints tk)) (hl : tk.length ≤ 9223372036854775807) :
    Calls Tryd.prog 36 #[.int .i64 b, .slice A tk.length c, .int .i64 p] w fun e w' => ∃ A' c', e = .returned (.tuple #[.slice A' (paceR b tk p).length c', .int .i64 (paceCd b tk p)]) ∧ Rd w' 0 w'.heap.size 1 A' (paceR b tk p).length (ints (paceR b tk p)) ∧ Below w.heap.size w w' := by
  obtain ⟨ii, hii, hiz0, hiz1, hiz2⟩ := info_parts infoI3
  have HOB := Lib.hid (fun W => paceOut_any b W)
  have HOP := Lib.hid (fun W => paceOut_any p W)
  have HR := Lib.hid hr
  have HRB := Lib.hid (fun (h : paceCd b tk p ≠ 0) => paceR_bad h)
  clear hr
  cases hb0 : paceOut b with
  | true =>
    rw [hb0] at HOB
    have HC := Lib.hid (show paceCd b tk p = 9 by unfold paceCd; rw [if_pos hb0])
    have HL := Lib.hid (HRB.out (by rw [HC.out]; omega))
    clear hb0
    go_enter Tryd.func36, Tryd.ntmps36
    go_wp2_with fail
    (with_reducible refine (HOB.out _).mono ?_)
    rintro e w1 ⟨rfl, rfl⟩
    go_wp2
    go_ret2
    exact ⟨none, 0, by rw [HC.out, HL.out]; rfl, by rw [HL.out]; exact Rd.nil, Below.refl _ _⟩
  | false =>
    rw [hb0] at HOB
    have HPB := Lib.hid (paceOut_no hb0)
    have hc1 : paceCd b tk p = if 20000 < tk.length then 3 else if tk.any paceOut = true ∨ paceOut p = true then 9 else if paceLate b tk p tk.length = true then 3 else 0 := by
      unfold paceCd; rw [if_neg (by rw [hb0]; simp)]
    clear hb0
    by_cases hn : 20000 < tk.length
    · have t1 : decide (20000 < (tk.length : Int)) = true := by simp; omega
      have HC := Lib.hid (show paceCd b tk p = 3 by rw [hc1, if_pos hn])
      have HL := Lib.hid (HRB.out (by rw [HC.out]; omega))
      clear hc1
      go_enter Tryd.func36, Tryd.ntmps36
      go_wp2_with fail
      (with_reducible refine (HOB.out _).mono ?_)
      rintro e w1 ⟨rfl, rfl⟩
      go_wp2
      go_ret2
      exact ⟨none, 0, by rw [HC.out, HL.out]; rfl, by rw [HL.out]; exact Rd.nil, Below.refl _ _⟩
    · have t1 : decide (20000 < (tk.length : Int)) = false := by simp; omega
      rw [if_neg hn] at hc1
      have HCN := Lib.hid (containsPace_any A c tk w HR.out (by omega))
      cases ha : tk.any paceOut with
      | true =>
        rw [ha] at HCN
        have HC := Lib.hid (show paceCd b tk p = 9 by rw [hc1, if_pos (.inl ha)])
        have HL := Lib.hid (HRB.out (by rw [HC.out]; omega))
        clear hc1 ha
        go_enter Tryd.func36, Tryd.ntmps36
        go_wp2_with fail
        (with_reducible refine (HOB.out _).mono ?_)
        rintro e w1 ⟨rfl, rfl⟩
        go_wp2_with fail
        (with_reducible refine HCN.out.mono ?_)
        rintro e w2 ⟨rfl, hb2⟩
        go_wp2
        go_ret2
        exact ⟨none, 0, by rw [HC.out, HL.out]; rfl, by rw [HL.out]; exact Rd.nil, hb2⟩
      | false =>
        rw [ha] at HCN
        cases hp0 : paceOut p with
        | true =>
          rw [hp0] at HOP
          have HC := Lib.hid (show paceCd b tk p = 9 by rw [hc1, if_pos (.inr hp0)])
          have HL := Lib.hid (HRB.out (by rw [HC.out]; omega))
          clear hc1 ha hp0
          go_enter Tryd.func36, Tryd.ntmps36
          go_wp2_with fail
          (with_reducible refine (HOB.out _).mono ?_)
          rintro e w1 ⟨rfl, rfl⟩
          go_wp2_with fail
          (with_reducible refine HCN.out.mono ?_)
          rintro e w2 ⟨rfl, hb2⟩
          go_wp2_with fail
          (with_reducible refine (HOP.out _).mono ?_)
          rintro e w3 ⟨rfl, rfl⟩
          go_wp2
          go_ret2
          exact ⟨none, 0, by rw [HC.out, HL.out]; rfl, by rw [HL.out]; exact Rd.nil, hb2⟩
        | false =>
          rw [hp0] at HOP
          have HPP := Lib.hid (paceOut_no hp0)
          have HA := Lib.hid (fun k t (ht : tk[k]? = some t) => any_no_at ha ht)
          have HC := Lib.hid (show paceCd b tk p = if paceLate b tk p tk.length = true then 3 else 0 by rw [hc1, if_neg (by rw [ha, hp0]; simp)])
          clear hc1 ha hp0
          go_enter Tryd.func36, Tryd.ntmps36
          go_wp2_with fail
          (with_reducible refine (HOB.out _).mono ?_)
          rintro e w1 ⟨rfl, rfl⟩
          go_wp2_with fail
          (with_reducible refine HCN.out.mono ?_)
          rintro e w2 ⟨rfl, hb2⟩
          have HB2 := Lib.hid hb2
          have hs2 := hb2.size
          clear hb2
          go_wp2_with fail
          (with_reducible refine (HOP.out _).mono ?_)
          rintro e w3 ⟨rfl, rfl⟩
          go_wp2_with (at_make; refine wpList_make_own _ rfl (.const (.int .i64 0)) (.tmp 30) 28 rfl w2.heap.size 3 ii _ 1 Tryd.underlying28 hii hiz0 hiz1 .i64 .i64 _ tk.length rfl rfl ?m1 ?m2 ?m3 ?m4 ?_)
          case m1 => rfl
          case m2 => rw [hiz2]; omega
          case m3 => unfold maxLen; omega
          case m4 => simp
          intro w4 hown hgr
          have HB4 := Lib.hid (HB2.out.grown hgr (by have := HB2.out.size; omega) (fun k (hk : none = some k) => by cases hk))
          have HO4 := Lib.hid hown
          have hs4 : w2.heap.size ≤ w4.heap.size := hgr.size
          clear hown hgr
          go_wp2_with fail
          go_loopw [0, 9, 11, 34] (fun bv ov _ iv wr => ∃ (k : Nat) (x : Int), iv = .int .i64 k ∧ k ≤ tk.length ∧ bv = .int .i64 x ∧ 0 ≤ x ∧ x ≤ 2000000000000 ∧ Hid (x = paceB b tk p k) ∧ Hid (∀ j, j < k → paceB b tk p j ≤ 1000000000000) ∧ wr.ownsRow w2.heap.size 3 1 ov k (ints (paceL b tk p k)) ∧ w2.heap.size ≤ wr.heap.size ∧ Below w.heap.size w wr) (fun _ _ _ iv _ => tk.length - (intOf iv).toNat)
          case atStart => exact ⟨0, b, rfl, Nat.zero_le _, rfl, HPB.out.1, by have := HPB.out.2; omega, Lib.hid rfl, Lib.hid (fun j hj => by omega), HO4.out, hs4, HB4.out⟩
          case round =>
            obtain ⟨k, x, rfl, hk, rfl, x0, x1, HX, HN, hown, hsb, hbw⟩ := hrel
            have HOW := Lib.hid hown
            have HBW := Lib.hid hbw
            have hsz := hbw.size
            by_cases hlt : k < tk.length
            · obtain ⟨bb, oo, uu, rfl, hbb, hu, qk⟩ := (HR.out.below hbw (Nat.le_refl _)).at1 hlt
              obtain ⟨t, ht, rfl⟩ := ints_get hu
              by_cases hlate : 1000000000000 < x
              · have tl : decide (1000000000000 < x) = true := by simpa using hlate
                have HE := Lib.hid (show paceCd b tk p = 3 by rw [HC.out, if_pos (paceLate_of hlt (by rw [← HX.out]; exact hlate))])
                have HL := Lib.hid (HRB.out (by rw [HE.out]; omega))
                clear hu ht hown hbw hlate
                go_wp2
                go_ret2
                first | exact ⟨none, 0, by rw [HE.out, HL.out]; rfl, by rw [HL.out]; exact Rd.nil, HBW.out⟩ | exact ⟨none, ⟨0, by rw [HE.out, HL.out]; rfl⟩, by rw [HL.out]; exact Rd.nil, HBW.out⟩
              · have tl : decide (1000000000000 < x) = false := by simpa using hlate
                obtain ⟨r0, r1⟩ := HA.out k t ht
                obtain ⟨p0, p1⟩ := HPP.out
                have m0 : 0 ≤ max t p := by omega
                have m1 : max t p ≤ 1000000000000 := by omega
                have HX1 := Lib.hid (show x + max t p = paceB b tk p (k + 1) by rw [paceB_succ ht, HX.out])
                have HN1 := Lib.hid (show ∀ j, j < k + 1 → paceB b tk p j ≤ 1000000000000 from fun j hj => by
                  rcases Nat.lt_or_ge j k with h | h
                  · exact HN.out j h
                  · rw [show j = k by omega, ← HX.out]; omega)
                have HES := Lib.hid (show ints (paceL b tk p (k + 1)) = ints (paceL b tk p k) ++ [.int .i64 x] by rw [paceL_snoc, HX.out])
                clear hu ht hown hbw
                go_wp2_with (at_builtin; refine wpList_append_own _ rfl (.tmp 40) (.tmp 42) 28 rfl w2.heap.size 3 ii _ 1 8 Tryd.underlying28 hii hiz0 hiz1 hiz2 rfl (by decide) _ k _ rfl (HOW.out.alloc _) ⟨wr.heap.size, 0, none⟩ 1 1 [.int .i64 x] rfl rfl (cell_one_new wr _ 3) (by simp [Value.oneCell']) (by unfold maxLen; omega) (by omega) (by simp; omega) ?_)
                intro v' w6 hown6 hgr6 _
                have HB6 := Lib.hid (show Below w.heap.size w w6 from (HBW.out.alloc (by omega) _).trans ((Fr.of_grown hgr6).below (B := w.heap.size) (by simp; omega) (fun i hi hm => by have := (ownsRow_block HOW.out hm).1; omega)))
                have HO6 := Lib.hid (show w6.ownsRow w2.heap.size 3 1 v' (k + 1) (ints (paceL b tk p (k + 1))) by rw [HES.out]; exact hown6)
                have hs6 := Nat.le_trans hsb (Nat.le_trans (show wr.heap.size ≤ _ by simp) hgr6.size)
                clear hown6 hgr6
                go_wp2
                go_roundw
                case rel => exact ⟨k + 1, _, by go_num, by omega, rfl, by omega, by omega, HX1, HN1, HO6.out, hs6, HB6.out⟩
                case measure => simp [intOf]; omega
            · obtain rfl : k = tk.length := by omega
              obtain ⟨A', c', rfl, _, _, _⟩ := ownsRow_shape hown
              have HRD := Lib.hid ((Rd.of_own hown).more (Nat.zero_le _) (Nat.le_refl _))
              have HE := Lib.hid (show paceCd b tk p = 0 by rw [HC.out, if_neg (by rw [paceLate_no HN.out]; simp)])
              have HL := Lib.hid (show paceR b tk p = paceL b tk p tk.length by unfold paceR; rw [if_pos HE.out])
              have HLL := Lib.hid (show (paceR b tk p).length = tk.length by rw [HL.out, paceL_length])
              clear hown hbw
              go_wp2
              go_ret2
              exact ⟨A', c', by rw [HE.out, HLL.out]; rfl, by rw [HLL.out, HL.out]; exact HRD.out, HBW.out⟩

set_option maxHeartbeats 4000000 in
set_option maxRecDepth 100000 in
theorem r7Pace_any (A : Option Addr) (c : Nat) (tk : List Int) (b p : Int) (w : World) (hr : Rd w 0 w.heap.size 1 A tk.length (ints tk)) (hl : tk.length ≤ 9223372036854775807) :
    Calls Tryd.prog 37 #[.int .i64 b, .slice A tk.length c, .int .i64 p] w fun e w' => ∃ A' c', e = .returned (.tuple #[.slice A' (paceR b tk p).length c', .int .i64 (paceCd b tk p)]) ∧ Rd w' 0 w'.heap.size 1 A' (paceR b tk p).length (ints (paceR b tk p)) ∧ Below w.heap.size w w' := by
  obtain ⟨ii, hii, hiz0, hiz1, hiz2⟩ := info_parts infoI3
  have HR := Lib.hid hr
  have HRB := Lib.hid (fun (h : paceCd b tk p ≠ 0) => paceR_bad h)
  clear hr
  by_cases hb0 : paceOut b = true
  · have HC := Lib.hid (show paceCd b tk p = 9 by unfold paceCd; rw [if_pos hb0])
    have HL := Lib.hid (HRB.out (by rw [HC.out]; omega))
    rcases paceOut_yes hb0 with t1 | ⟨t1, t2⟩
    all_goals clear hb0
    all_goals go_enter Tryd.func37, Tryd.ntmps37
    all_goals go_wp2
    all_goals go_ret2
    all_goals exact ⟨none, 0, by rw [HC.out, HL.out]; rfl, by rw [HL.out]; exact Rd.nil, Below.refl _ _⟩
  · have hb0 : paceOut b = false := by simpa using hb0
    have HPB := Lib.hid (paceOut_no hb0)
    have hc1 : paceCd b tk p = if 20000 < tk.length then 3 else if tk.any paceOut = true ∨ paceOut p = true then 9 else if paceLate b tk p tk.length = true then 3 else 0 := by
      unfold paceCd; rw [if_neg (by rw [hb0]; simp)]
    have t1 : decide (b < 0) = false := by have := paceOut_no hb0; simp; omega
    have t2 : decide (1000000000000 < b) = false := by have := paceOut_no hb0; simp; omega
    clear hb0
    by_cases hn : 20000 < tk.length
    · have t3 : decide (20000 < (tk.length : Int)) = true := by simp; omega
      have HC := Lib.hid (show paceCd b tk p = 3 by rw [hc1, if_pos hn])
      have HL := Lib.hid (HRB.out (by rw [HC.out]; omega))
      clear hc1
      go_enter Tryd.func37, Tryd.ntmps37
      go_wp2
      go_ret2
      exact ⟨none, 0, by rw [HC.out, HL.out]; rfl, by rw [HL.out]; exact Rd.nil, Below.refl _ _⟩
    · have t3 : decide (20000 < (tk.length : Int)) = false := by simp; omega
      rw [if_neg hn] at hc1
      have HC1 := Lib.hid hc1
      clear hc1
      go_enter Tryd.func37, Tryd.ntmps37
      go_wp2_with fail
      go_loopw [8] (fun iv wr => ∃ k : Nat, iv = .int .i64 k ∧ k ≤ tk.length ∧ Hid (∀ x ∈ tk.take k, paceOut x = false) ∧ Below w.heap.size w wr) (fun iv _ => tk.length - (intOf iv).toNat)
      case atStart => exact ⟨0, rfl, Nat.zero_le _, Lib.hid (fun x hx => by simp at hx), Below.refl _ _⟩
      case round =>
        obtain ⟨k, rfl, hk, HN, hbw⟩ := hrel
        have HBW := Lib.hid hbw
        by_cases hlt : k < tk.length
        · obtain ⟨bb, oo, uu, rfl, hbb, hu, qk⟩ := (HR.out.below hbw (Nat.le_refl _)).at1 hlt
          obtain ⟨t, ht, rfl⟩ := ints_get hu
          by_cases hp : paceOut t = true
          · have HC := Lib.hid (show paceCd b tk p = 9 by rw [HC1.out, if_pos (.inl (any_yes ht hp))])
            have HL := Lib.hid (HRB.out (by rw [HC.out]; omega))
            rcases paceOut_yes hp with u1 | ⟨u1, u2⟩
            all_goals clear hu ht hp hbw
            all_goals go_wp2
            all_goals go_ret2
            all_goals first | exact ⟨none, 0, by rw [HC.out, HL.out]; rfl, by rw [HL.out]; exact Rd.nil, HBW.out⟩ | exact ⟨none, ⟨0, by rw [HC.out, HL.out]; rfl⟩, by rw [HL.out]; exact Rd.nil, HBW.out⟩
          · have hp : paceOut t = false := by simpa using hp
            have u1 : decide (t < 0) = false := by have := paceOut_no hp; simp; omega
            have u2 : decide (1000000000000 < t) = false := by have := paceOut_no hp; simp; omega
            have HY := Lib.hid (any_take_no HN.out ht hp)
            clear hu ht hp hbw
            go_wp2
            go_roundw
            case rel => exact ⟨k + 1, by go_num, by omega, HY, HBW.out⟩
            case measure => simp [intOf]; omega
        · have HANY := Lib.hid (any_all_no HN.out (by omega))
          obtain ⟨wL, hwL⟩ : ∃ z : World, z = wr := ⟨_, rfl⟩
          subst hwL
          clear hbw
          by_cases hp0 : paceOut p = true
          · have HC := Lib.hid (show paceCd b tk p = 9 by rw [HC1.out, if_pos (.inr hp0)])
            have HL := Lib.hid (HRB.out (by rw [HC.out]; omega))
            rcases paceOut_yes hp0 with u1 | ⟨u1, u2⟩
            all_goals clear hp0
            all_goals go_wp2
            all_goals go_ret2
            all_goals first | exact ⟨none, 0, by rw [HC.out, HL.out]; rfl, by rw [HL.out]; exact Rd.nil, HBW.out⟩ | exact ⟨none, ⟨0, by rw [HC.out, HL.out]; rfl⟩, by rw [HL.out]; exact Rd.nil, HBW.out⟩
          · have hp0 : paceOut p = false := by simpa using hp0
            have HPP := Lib.hid (paceOut_no hp0)
            have u1 : decide (p < 0) = false := by have := paceOut_no hp0; simp; omega
            have u2 : decide (1000000000000 < p) = false := by have := paceOut_no hp0; simp; omega
            have HA := Lib.hid (fun k t (ht : tk[k]? = some t) => any_no_at HANY.out ht)
            have HC := Lib.hid (show paceCd b tk p = if paceLate b tk p tk.length = true then 3 else 0 by rw [HC1.out, if_neg (by rw [HANY.out, hp0]; simp)])
            have hsL := HBW.out.size
            clear hp0
            go_wp2_with fail
            go_loopw [0, 9, 10] (fun bv ov iv wr => ∃ (k : Nat) (x : Int), iv = .int .i64 k ∧ k ≤ tk.length ∧ bv = .int .i64 x ∧ 0 ≤ x ∧ x ≤ 1000000000000 ∧ Hid (x = paceB b tk p (k - 1)) ∧ Hid (∀ j, j < k → paceB b tk p j ≤ 1000000000000) ∧ wr.ownsRow wL.heap.size 3 1 ov k (ints (paceL b tk p k)) ∧ wL.heap.size ≤ wr.heap.size ∧ Below w.heap.size w wr) (fun _ _ iv _ => tk.length - (intOf iv).toNat)
            case atStart => exact ⟨0, b, rfl, Nat.zero_le _, rfl, HPB.out.1, HPB.out.2, Lib.hid rfl, Lib.hid (fun j hj => by omega), ⟨by simp [paceL, ints], .inl ⟨rfl, rfl⟩⟩, Nat.le_refl _, HBW.out⟩
            case round =>
              obtain ⟨k, x, rfl, hk, rfl, x0, x1, HX, HN2, hown, hsb, hbw⟩ := hrel
              have HOW := Lib.hid hown
              have HBW2 := Lib.hid hbw
              have hsz := hbw.size
              by_cases hlt : k < tk.length
              · have hcs : (k = 0 ∧ decide (0 < k) = false ∧ decide ((0 : Int) < (k : Int)) = false) ∨ (∃ j, k = j + 1 ∧ decide (0 < k) = true ∧ decide ((0 : Int) < (k : Int)) = true ∧ ((k : Int) - 1 = (j : Int))) := by
                  rcases k with _ | j
                  · exact .inl ⟨rfl, rfl, rfl⟩
                  · exact .inr ⟨j, rfl, by simp, by simp <;> omega, by omega⟩
                rcases hcs with ⟨rfl, v1, v2⟩ | ⟨j, hkj, v1, v2, v3⟩
                · have tl : decide (1000000000000 < x) = false := by simp; omega
                  have HES := Lib.hid (show ints (paceL b tk p (0 + 1)) = ints (paceL b tk p 0) ++ [.int .i64 x] by rw [paceL_snoc, HX.out])
                  have HN1 := Lib.hid (show ∀ j, j < 0 + 1 → paceB b tk p j ≤ 1000000000000 from fun j hj => by
                    have := HX.out; rw [show j = 0 by omega]; rw [show (0 : Nat) - 1 = 0 by omega] at this; omega)
                  clear hown hbw
                  go_wp2_with (at_builtin; refine wpList_append_own _ rfl (.tmp 63) (.tmp 65) 28 rfl wL.heap.size 3 ii _ 1 8 Tryd.underlying28 hii hiz0 hiz1 hiz2 rfl (by decide) _ 0 _ rfl (HOW.out.alloc _) ⟨wr.heap.size, 0, none⟩ 1 1 [.int .i64 x] rfl rfl (cell_one_new wr _ 3) (by simp [Value.oneCell']) (by unfold maxLen; omega) (by omega) (by simp; omega) ?_)
                  intro v' w6 hown6 hgr6 _
                  have HB6 := Lib.hid (show Below w.heap.size w w6 from (HBW2.out.alloc (by omega) _).trans ((Fr.of_grown hgr6).below (B := w.heap.size) (by simp; omega) (fun i hi hm => by have := (ownsRow_block HOW.out hm).1; omega)))
                  have HO6 := Lib.hid (show w6.ownsRow wL.heap.size 3 1 v' (0 + 1) (ints (paceL b tk p (0 + 1))) by rw [HES.out]; exact hown6)
                  have hs6 := Nat.le_trans hsb (Nat.le_trans (show wr.heap.size ≤ _ by simp) hgr6.size)
                  clear hown6 hgr6
                  go_wp2
                  go_roundw
                  case rel => exact ⟨0 + 1, x, by go_num, by omega, rfl, by omega, by omega, HX, HN1, HO6.out, hs6, HB6.out⟩
                  case measure => simp [intOf]; omega
                · obtain ⟨bb, oo, uu, rfl, hbb, hu, qk⟩ := (HR.out.below hbw (Nat.le_refl _)).at1 (show j < tk.length by omega)
                  obtain ⟨t, ht, rfl⟩ := ints_get hu
                  obtain ⟨r0, r1⟩ := HA.out j t ht
                  obtain ⟨p0, p1⟩ := HPP.out
                  have m0 : 0 ≤ max t p := by omega
                  have m1 : max t p ≤ 1000000000000 := by omega
                  have HX1 := Lib.hid (show x + max t p = paceB b tk p k by rw [hkj, paceB_succ ht, HX.out, hkj]; rfl)
                  have hj0 : (0 : Int) ≤ (k : Int) - 1 := by omega
                  have hj1 : (k : Int) - 1 < (tk.length : Int) := by omega
                  by_cases hlate : 1000000000000 < x + max t p
                  · have tl : decide (1000000000000 < x + max t p) = true := by simpa using hlate
                    have HE := Lib.hid (show paceCd b tk p = 3 by rw [HC.out, if_pos (paceLate_of hlt (by rw [← HX1.out]; exact hlate))])
                    have HL := Lib.hid (HRB.out (by rw [HE.out]; omega))
                    clear hu ht hown hbw hlate hkj
                    go_wp2
                    go_ret2
                    first | exact ⟨none, 0, by rw [HE.out, HL.out]; rfl, by rw [HL.out]; exact Rd.nil, HBW2.out⟩ | exact ⟨none, ⟨0, by rw [HE.out, HL.out]; rfl⟩, by rw [HL.out]; exact Rd.nil, HBW2.out⟩
                  · have tl : decide (1000000000000 < x + max t p) = false := by simpa using hlate
                    have HN1 := Lib.hid (show ∀ j, j < k + 1 → paceB b tk p j ≤ 1000000000000 from fun j hj => by
                      rcases Nat.lt_or_ge j k with h | h
                      · exact HN2.out j h
                      · rw [show j = k by omega, ← HX1.out]; omega)
                    have HES := Lib.hid (show ints (paceL b tk p (k + 1)) = ints (paceL b tk p k) ++ [.int .i64 (x + max t p)] by rw [paceL_snoc, HX1.out])
                    clear hu ht hown hbw hkj
                    go_wp2_with (at_builtin; refine wpList_append_own _ rfl (.tmp 63) (.tmp 65) 28 rfl wL.heap.size 3 ii _ 1 8 Tryd.underlying28 hii hiz0 hiz1 hiz2 rfl (by decide) _ k _ rfl (HOW.out.alloc _) ⟨wr.heap.size, 0, none⟩ 1 1 [.int .i64 (x + max t p)] rfl rfl (cell_one_new wr _ 3) (by simp [Value.oneCell']) (by unfold maxLen; omega) (by omega) (by simp; omega) ?_)
                    intro v' w6 hown6 hgr6 _
                    have HB6 := Lib.hid (show Below w.heap.size w w6 from (HBW2.out.alloc (by omega) _).trans ((Fr.of_grown hgr6).below (B := w.heap.size) (by simp; omega) (fun i hi hm => by have := (ownsRow_block HOW.out hm).1; omega)))
                    have HO6 := Lib.hid (show w6.ownsRow wL.heap.size 3 1 v' (k + 1) (ints (paceL b tk p (k + 1))) by rw [HES.out]; exact hown6)
                    have hs6 := Nat.le_trans hsb (Nat.le_trans (show wr.heap.size ≤ _ by simp) hgr6.size)
                    clear hown6 hgr6
                    go_wp2
                    go_roundw
                    case rel => exact ⟨k + 1, _, by go_num, by omega, rfl, by omega, by omega, HX1, HN1, HO6.out, hs6, HB6.out⟩
                    case measure => simp [intOf]; omega
              · obtain rfl : k = tk.length := by omega
                obtain ⟨A', c', rfl, _, _, _⟩ := ownsRow_shape hown
                have HRD := Lib.hid ((Rd.of_own hown).more (Nat.zero_le _) (Nat.le_refl _))
                have HE := Lib.hid (show paceCd b tk p = 0 by rw [HC.out, if_neg (by rw [paceLate_no HN2.out]; simp)])
                have HL := Lib.hid (show paceR b tk p = paceL b tk p tk.length by unfold paceR; rw [if_pos HE.out])
                have HLL := Lib.hid (show (paceR b tk p).length = tk.length by rw [HL.out, paceL_length])
                clear hown hbw
                go_wp2
                go_ret2
                exact ⟨A', c', by rw [HE.out, HLL.out]; rfl, by rw [HLL.out, HL.out]; exact HRD.out, HBW2.out⟩
end Go.Proofs.YtkoodmoilfgafaaDoor
