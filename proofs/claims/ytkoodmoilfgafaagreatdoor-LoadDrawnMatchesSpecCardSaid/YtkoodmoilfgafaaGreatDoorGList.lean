import Derived.Test.YtkoodmoilfgafaaGreatDoorGRa
import Derived.Test.YtkoodmoilfgafaaGreatDoorShelf
import Derived.Sort.OwnSortedInts
import Derived.Test.YtkoodmoilfgafaaGreatDoorGRb
import Derived.Maps.AppendAt
import Derived.Laws.CopyOwn
import Derived.BigQuiet
import Derived.IntWalk
import Derived.Deep.QuietTactic
/- Lists of times: sorted lists, the parts of a list, shares, rounds: plain. -/
namespace Go.Proofs.YtkoodmoilfgafaaGreatDoor

/-- a list in ascending order -/
def srtZ (l : List Int) : List Int := l.mergeSort fun x y => decide (x ≤ y)
theorem srtZ_perm (l : List Int) : (srtZ l).Perm l := List.mergeSort_perm l _
theorem srtZ_length (l : List Int) : (srtZ l).length = l.length := (srtZ_perm l).length_eq
theorem srtZ_pw (l : List Int) : (srtZ l).Pairwise (· ≤ ·) := by
  have := List.pairwise_mergeSort (le := fun x y : Int => decide (x ≤ y)) (fun a b c h1 h2 => by simp at *; omega) (fun a b => by simp; omega) l
  exact this.imp (by intro a b h; simpa using h)
theorem sorted_eq {a b : List Int} (ha : a.Pairwise (· ≤ ·)) (hb : b.Pairwise (· ≤ ·)) (h : a.Perm b) : a = b :=
  List.Perm.eq_of_pairwise (fun _ _ _ _ h1 h2 => Int.le_antisymm h1 h2) ha hb h
theorem srtZ_eq {a l : List Int} (ha : a.Pairwise (· ≤ ·)) (h : a.Perm l) : a = srtZ l := sorted_eq ha (srtZ_pw l) (h.trans (srtZ_perm l).symm)
theorem srtZ_congr {a b : List Int} (h : a.Perm b) : srtZ a = srtZ b := sorted_eq (srtZ_pw a) (srtZ_pw b) ((srtZ_perm a).trans (h.trans (srtZ_perm b).symm))
theorem srtZ_self {a : List Int} (ha : a.Pairwise (· ≤ ·)) : srtZ a = a := (srtZ_eq ha (List.Perm.refl a)).symm
theorem srtZ_mem {a : List Int} {x : Int} : x ∈ srtZ a ↔ x ∈ a := (srtZ_perm a).mem_iff
/-- an element put in behind those that are not above it -/
theorem ins_pw {l : List Int} {x : Int} {k : Nat} (hl : l.Pairwise (· ≤ ·)) (h1 : ∀ y ∈ l.take k, y ≤ x) (h2 : ∀ y ∈ l.drop k, x ≤ y) : (l.take k ++ x :: l.drop k).Pairwise (· ≤ ·) := by
  have h3 : (l.take k ++ l.drop k).Pairwise (· ≤ ·) := by rw [List.take_append_drop]; exact hl
  rw [List.pairwise_append] at h3 ⊢
  obtain ⟨p1, p2, p3⟩ := h3
  refine ⟨p1, List.pairwise_cons.2 ⟨h2, p2⟩, fun a ha b hb => ?_⟩
  rcases List.mem_cons.1 hb with rfl | hb
  · exact h1 a ha
  · exact p3 a ha b hb
theorem ins_perm (l : List Int) (x : Int) (k : Nat) : (l.take k ++ x :: l.drop k).Perm (l ++ [x]) := by
  have h : (l.take k ++ x :: l.drop k).Perm (x :: (l.take k ++ l.drop k)) := List.perm_middle
  rw [List.take_append_drop] at h
  exact h.trans (List.perm_append_comm (l₁ := [x]) (l₂ := l))
theorem ins_srt {zs : List Int} {x : Int} {k : Nat} (h1 : ∀ y ∈ (srtZ zs).take k, y ≤ x) (h2 : ∀ y ∈ (srtZ zs).drop k, x ≤ y) : (srtZ zs).take k ++ x :: (srtZ zs).drop k = srtZ (zs ++ [x]) :=
  srtZ_eq (ins_pw (srtZ_pw zs) h1 h2) ((ins_perm _ x k).trans ((srtZ_perm zs).append_right [x]))
theorem pw_get {l : List Int} (h : l.Pairwise (· ≤ ·)) {i j : Nat} {a b : Int} (hij : i ≤ j) (ha : l[i]? = some a) (hb : l[j]? = some b) : a ≤ b := by
  obtain ⟨hi, rfl⟩ := List.getElem?_eq_some_iff.1 ha
  obtain ⟨hj, rfl⟩ := List.getElem?_eq_some_iff.1 hb
  rcases Nat.eq_or_lt_of_le hij with e | e
  · subst e; exact Int.le_refl _
  · exact List.pairwise_iff_getElem.1 h i j hi hj e
/-- what a search by halves knows -/
theorem half_lo {l : List Int} (hl : l.Pairwise (· ≤ ·)) {m k : Nat} {a x : Int} (ha : l[m]? = some a) (hx : a ≤ x) (hk : k ≤ m + 1) : ∀ y ∈ l.take k, y ≤ x := by
  intro y hy
  obtain ⟨i, hi⟩ := List.getElem?_of_mem hy
  rw [List.getElem?_take] at hi
  split at hi
  · exact Int.le_trans (pw_get hl (by omega) hi ha) hx
  · cases hi
theorem half_hi {l : List Int} (hl : l.Pairwise (· ≤ ·)) {m : Nat} {a x : Int} (ha : l[m]? = some a) (hx : x < a) : ∀ y ∈ l.drop m, x ≤ y := by
  intro y hy
  obtain ⟨i, hi⟩ := List.getElem?_of_mem hy
  rw [List.getElem?_drop] at hi
  exact Int.le_trans (Int.le_of_lt hx) (pw_get hl (Nat.le_add_right m i) ha hi)

/-- the elements ahead of place m whose number, modulo n, is k -/
def partU (ts : List Int) (k n m : Nat) : List Int := ((List.range m).filter fun i => i % n == k).map fun i => ts.getD i 0
/-- a part of a list -/
def partL (ts : List Int) (k n : Nat) : List Int := partU ts k n ts.length
theorem partU_start (ts : List Int) {k n m : Nat} (hk : k < n) (hm : m ≤ k) : partU ts k n m = [] := by
  unfold partU
  rw [List.map_eq_nil_iff, List.filter_eq_nil_iff]
  intro i hi h
  have hi := List.mem_range.1 hi
  have : i % n = i := Nat.mod_eq_of_lt (by omega)
  simp at h; omega
theorem partU_step (ts : List Int) {k n j d : Nat} (hk : k < n) (h0 : 0 < d) (hd : d ≤ n) : partU ts k n (k + j * n + d) = partU ts k n (k + j * n) ++ [ts.getD (k + j * n) 0] := by
  unfold partU
  have e1 : (k + j * n) % n = k := by rw [Nat.add_mul_mod_self_right]; exact Nat.mod_eq_of_lt hk
  have e2 : (List.range (k + j * n + d)).filter (fun i => i % n == k) = (List.range (k + j * n)).filter (fun i => i % n == k) ++ [k + j * n] := by
    rw [List.range_add, List.filter_append]
    congr 1
    obtain ⟨d', rfl⟩ : ∃ d', d = d' + 1 := ⟨d - 1, by omega⟩
    rw [List.range_succ_eq_map, List.map_cons, List.filter_cons, if_pos (by simpa using e1)]
    congr 1
    rw [List.filter_eq_nil_iff]
    intro i hi h
    simp only [List.map_map, List.mem_map, List.mem_range, Function.comp] at hi
    obtain ⟨x, hx, rfl⟩ := hi
    have h : (k + j * n + Nat.succ x) % n = k := by simpa using h
    rw [show k + j * n + Nat.succ x = k + (x + 1) + j * n by omega, Nat.add_mul_mod_self_right] at h
    rcases Nat.lt_or_ge (k + (x + 1)) n with hl | hl
    · rw [Nat.mod_eq_of_lt hl] at h; omega
    · rw [Nat.mod_eq_sub_mod hl, Nat.mod_eq_of_lt (by omega)] at h; omega
  rw [e2, List.map_append]; rfl
theorem partU_mem {ts : List Int} {k n : Nat} {x : Int} (h : x ∈ partL ts k n) : x ∈ ts := by
  unfold partL partU at h
  obtain ⟨i, hi, rfl⟩ := List.mem_map.1 h
  have hi := List.mem_range.1 (List.mem_filter.1 hi).1
  rw [List.getD_eq_getElem?_getD, List.getElem?_eq_getElem hi]
  exact List.getElem_mem hi
theorem partL_le (ts : List Int) (k n : Nat) : (partL ts k n).length ≤ ts.length := by
  unfold partL partU
  rw [List.length_map]
  have := List.length_filter_le (fun i => i % n == k) (List.range ts.length)
  simpa using this
theorem partL_pw {ts : List Int} (h : ts.Pairwise (· ≤ ·)) (k n : Nat) : (partL ts k n).Pairwise (· ≤ ·) := by
  unfold partL partU
  rw [List.pairwise_map]
  refine (List.Pairwise.filter _ List.pairwise_lt_range).imp_of_mem fun {a b} ha hb hab => ?_
  have ha := List.mem_range.1 (List.mem_filter.1 ha).1
  have hb := List.mem_range.1 (List.mem_filter.1 hb).1
  rw [List.getD_eq_getElem?_getD, List.getD_eq_getElem?_getD]
  rw [List.getElem?_eq_getElem ha, List.getElem?_eq_getElem hb]
  exact pw_get h (Nat.le_of_lt hab) (List.getElem?_eq_getElem ha) (List.getElem?_eq_getElem hb)
/-- the numbers ahead of m, sorted by their rests -/
theorem rests_perm (l : List Nat) (f : Nat → Nat) : ∀ n, ((List.range n).flatMap fun k => l.filter fun i => f i == k).Perm (l.filter fun i => decide (f i < n))
  | 0 => by simp
  | n + 1 => by
    rw [List.range_succ, List.flatMap_append]
    have ih := rests_perm l f n
    have h := List.filter_append_perm (fun i => decide (f i < n)) (l.filter fun i => decide (f i < n + 1))
    rw [List.filter_filter, List.filter_filter] at h
    have e1 : (l.filter fun i => decide (f i < n) && decide (f i < n + 1)) = l.filter fun i => decide (f i < n) := by
      congr 1; funext i; rw [Bool.eq_iff_iff]; simp; omega
    have e2 : (l.filter fun i => (!decide (f i < n)) && decide (f i < n + 1)) = l.filter fun i => f i == n := by
      congr 1; funext i; rw [Bool.eq_iff_iff]; simp; omega
    rw [e1, e2] at h
    simpa using (ih.append_right _).trans h
theorem parts_perm (ts : List Int) {n : Nat} (hn : 0 < n) : ((List.range n).flatMap fun k => partL ts k n).Perm ts := by
  have h := (rests_perm (List.range ts.length) (fun i => i % n) n).map (fun i => ts.getD i 0)
  rw [List.map_flatMap] at h
  have e : ((List.range ts.length).filter fun i => decide (i % n < n)).map (fun i => ts.getD i 0) = ts := by
    rw [List.filter_eq_self.2 (by intro i _; simp; exact Nat.mod_lt _ hn)]
    apply List.ext_getElem
    · simp
    · intro i h1 h2
      simp [List.getD_eq_getElem?_getD, List.getElem?_eq_getElem h2]
  rw [e] at h
  exact h
theorem parts_srt {ts : List Int} (h : ts.Pairwise (· ≤ ·)) {n : Nat} (hn : 0 < n) : srtZ ((List.range n).flatMap fun k => partL ts k n) = ts :=
  (srtZ_congr (parts_perm ts hn)).trans (srtZ_self h)
/-- shares -/
def shareE (k n : Int) (i : Nat) : Int := if (i : Int) < k % n then k / n + 1 else k / n
def shareL (k n : Int) : List Int := (List.range n.toNat).map (shareE k n)
def shareC (k n : Int) : Int := if k < 0 ∨ 1000000000000 < k ∨ n < 1 ∨ 100 < n then 9 else 0
/-- when rounds begin -/
def paceB (begin : Int) (took : List Int) (period : Int) : Nat → Int
  | 0 => begin
  | k + 1 => paceB begin took period k + max (took.getD k 0) period
def paceL (begin : Int) (took : List Int) (period : Int) (k : Nat) : List Int := (List.range k).map (paceB begin took period)
def paceIn (x : Int) : Prop := 0 ≤ x ∧ x ≤ 1000000000000
instance (x : Int) : Decidable (paceIn x) := by unfold paceIn; infer_instance
def paceC (begin : Int) (took : List Int) (period : Int) : Int :=
  if ¬ paceIn begin then 9 else if 20000 < took.length then 3 else if (¬ ∀ x ∈ took, paceIn x) ∨ ¬ paceIn period then 9 else
    if ∃ j, j < took.length ∧ 1000000000000 < paceB begin took period j then 3 else 0
end Go.Proofs.YtkoodmoilfgafaaGreatDoor

/- Blocks of integers. -/
namespace Go.Proofs.YtkoodmoilfgafaaGreatDoor
open Go Go.RowKit Go.Proofs

/-- block g holds these integers -/
def IBlk (w : World) (g : Nat) (o : List Int) : Prop := w.heap[g]? = some (.cells (ints o).toArray 3 (0, 0))
theorem IBlk.cell {w : World} {g : Nat} {o : List Int} (h : IBlk w g o) {i : Nat} {d : Int} (hi : o[i]? = some d) : w.cell? ⟨g, i, none⟩ = some (.int .i64 d) := by
  rw [cellsAt h]; simp [ints, hi]
theorem IBlk.frozen {w : World} {g : Nat} {o : List Int} (h : IBlk w g o) (i : Nat) : w.frozen? ⟨g, i, none⟩ = false := frozenAt h i
theorem IBlk.set {w : World} {g : Nat} {o : List Int} (h : IBlk w g o) (i : Nat) (d : Int) : IBlk (w.setCell ⟨g, i, none⟩ (.int .i64 d)) g (o.set i d) := by
  unfold IBlk at *
  simp only [World.setCell, Array.getElem?_modify, h, if_true, Option.map_some]
  congr 2
  rw [List.setIfInBounds_toArray]
  simp [ints, List.map_set]
theorem IBlk.of_own {w : World} {base g n : Nat} {o : List Int} (h : w.ownsRow base 3 1 (.slice (some ⟨g, 0, none⟩) n n) n (ints o)) : IBlk w g o ∧ o.length = n := by
  have hl : o.length = n := by have := h.1; simpa [ints] using this
  rcases h.2 with ⟨hv, _⟩ | ⟨g', cap, cur, hv, hb, hh, h1, h2, h3, h4⟩
  · cases hv
  · simp only [Value.slice.injEq, Option.some.injEq, Addr.mk.injEq] at hv
    obtain ⟨⟨rfl, _⟩, _, rfl⟩ := hv
    refine ⟨?_, hl⟩
    unfold IBlk
    rw [hh]
    have e : cur = (ints o).toArray := by
      apply Array.toList_inj.1
      rw [← h4, List.take_of_length_le (by simp; omega)]
    rw [e]
theorem IBlk.rd {w : World} {g : Nat} {o : List Int} (h : IBlk w g o) : Rd w 0 w.heap.size 1 (some ⟨g, 0, none⟩) o.length (ints o) :=
  ⟨by simp [ints], fun _ => ⟨g, 0, rfl, Nat.zero_le _, heap_lt h, fun j u hj => by rw [cellsAt h, Nat.zero_add]; simpa using hj⟩⟩
theorem made_zerosI (n : Nat) : (madeCells #[Value.int .i64 0] n).toList = ints (List.replicate n 0) := by
  rw [made_zeros4]; simp [d4s, ints]
end Go.Proofs.YtkoodmoilfgafaaGreatDoor

/- slices.Sort at integers: a row of one's own, sorted. -/
namespace Go.Proofs.YtkoodmoilfgafaaGreatDoor
open Go Go.RowKit Go.Proofs

theorem sortInts_any (base : Nat) (v : Value) (zs : List Int) (w : World) (h : w.ownsRow base 3 1 v zs.length (ints zs)) (hl : zs.length ≤ 20000) :
    Calls Tryz.prog 73 #[v] w fun e w' => e = .returned (.tuple #[]) ∧ w'.ownsRow base 3 1 v zs.length (ints (srtZ zs)) ∧ w.grownBy w' v.ownBlock := by
  rcases Nat.eq_zero_or_pos zs.length with h0 | h0
  · have h0' : zs = [] := List.eq_nil_of_length_eq_zero h0
    subst h0'
    obtain ⟨A, cap, rfl, _⟩ := ownsRow_shape h
    refine (Tryz.slices_Sort_int_none A cap w).mono fun e w' ⟨he, hw⟩ => ?_
    subst hw
    exact ⟨he, by simpa [srtZ] using h, ⟨rfl, rfl, rfl, Nat.le_refl _, fun _ _ _ => rfl⟩⟩
  · rcases h.2 with ⟨_, hz⟩ | ⟨g, cap, cur, rfl, hb, hh, h1, h2, h3, h4⟩
    · omega
    · have hg := heap_lt hh
      have hH := holds_of_blockI (ss := zs) hh (by rw [Nat.mul_one] at h4; exact h4)
      refine (Tryz.slices_Sort_int g 0 cap zs w hH hg (by omega)).mono fun e w' ⟨he, n, os, hw⟩ => ?_
      subst hw
      refine ⟨he, ?_, grownBy_sortedI _⟩
      exact ownsRow_sortedI (ts := srtZ zs) (ss := zs) (srtZ_length zs) hb hh h1 h2 h3

end Go.Proofs.YtkoodmoilfgafaaGreatDoor

/- Package dynamometerref7: sorted. -/
namespace Go.Proofs.YtkoodmoilfgafaaGreatDoor
open Go Go.RowKit Go.Proofs

/-- a row with an element, its whole block -/
theorem ownsRow_cells {w : World} {base : Nat} {e : TypeId} {n : Nat} {v : Value} {xs : List Value} (h : w.ownsRow base e 1 v n xs) (hn : 0 < n) :
    ∃ g cap R, v = .slice (some ⟨g, 0, none⟩) n cap ∧ base ≤ g ∧ w.heap[g]? = some (.cells (xs ++ R).toArray e (0, 0)) ∧ (xs ++ R).length = cap ∧ n ≤ cap ∧ cap ≤ maxLen ∧ xs.length = n := by
  rcases h.2 with ⟨_, h0⟩ | ⟨g, cap, cur, hv, hb, hh, h1, h2, h3, h4⟩
  · omega
  · have e0 : xs ++ cur.toList.drop n = cur.toList := by
      rw [← h4, Nat.mul_one, List.take_append_drop]
    refine ⟨g, cap, cur.toList.drop n, hv, hb, ?_, ?_, h1, h2, by have := h.1; omega⟩
    · rw [hh, e0]
    · rw [e0]; simp; omega
theorem ownsRow_of_cells {w : World} {base g cap : Nat} {e : TypeId} {xs R : List Value} (hb : base ≤ g) (hh : w.heap[g]? = some (.cells (xs ++ R).toArray e (0, 0))) (hl : (xs ++ R).length = cap) (hc : cap ≤ maxLen) : w.ownsRow base e 1 (.slice (some ⟨g, 0, none⟩) xs.length cap) xs.length xs := by
  refine ⟨by omega, .inr ⟨g, cap, _, rfl, hb, hh, by rw [← hl]; simp, hc, by simpa using hl, ?_⟩⟩
  simp
theorem splice_set (S : List Int) (z x : Int) (R : List Value) {a : Nat} (ha : a ≤ S.length) :
    (splice (ints S ++ [Value.int .i64 z] ++ R) (a + 1) (ints (S.drop a))).set a (.int .i64 x) = ints (S.take a ++ x :: S.drop a) ++ R := by
  have e1 : ints S = ints (S.take a) ++ ints (S.drop a) := by rw [← List.take_append_drop a S]; simp [ints]
  have l1 : (ints (S.take a)).length = a := by simp [ints]; omega
  have l2 : (ints S).length = S.length := by simp [ints]
  have l3 : (ints (S.drop a)).length = S.length - a := by simp [ints]
  unfold splice
  rw [l3]
  have d1 : List.drop (a + 1 + (S.length - a)) (ints S ++ [Value.int .i64 z] ++ R) = R := by
    rw [List.drop_append, List.drop_of_length_le (by simp [ints]; omega)]
    simp only [List.nil_append, List.length_append, l2, List.length_singleton]
    rw [show a + 1 + (S.length - a) - (S.length + 1) = 0 by omega]; rfl
  rw [d1]
  obtain ⟨y, T, hy⟩ : ∃ y T, ints (S.drop a) ++ ([Value.int .i64 z] ++ R) = y :: T := by
    cases h : ints (S.drop a) with
    | nil => exact ⟨_, _, rfl⟩
    | cons y t => exact ⟨y, _, rfl⟩
  have t1 : List.take (a + 1) (ints S ++ [Value.int .i64 z] ++ R) = ints (S.take a) ++ [y] := by
    rw [List.append_assoc, e1, List.append_assoc, hy]
    rw [List.take_append, l1, List.take_of_length_le (by omega), show a + 1 - a = 1 by omega]; rfl
  rw [t1, List.append_assoc, List.set_append_right _ _ (by omega), l1, Nat.sub_self]
  simp [ints]

set_option maxHeartbeats 4000000 in
set_option maxRecDepth 100000 in
theorem r7Sorted_any (A : Option Addr) (c : Nat) (zs : List Int) (w : World) (hr : Rd w 0 w.heap.size 1 A zs.length (ints zs)) (hl : zs.length ≤ 20000) :
    Calls Tryz.prog 109 #[.slice A zs.length c] w fun e w' => ∃ A' c', e = .returned (.slice A' (srtZ zs).length c') ∧ Rd w' 0 w'.heap.size 1 A' (srtZ zs).length (ints (srtZ zs)) ∧ Below w.heap.size w w' := by
  obtain ⟨i0, hi0, hz0, hz1, hz2⟩ := info_parts Tryz.infoI4
  have HSZ := Lib.hid (show (Tryz.prog.info? 3).map (·.size) = some 1 by rw [hi0]; simp [hz1])
  have HUI := Lib.hid (Tryz.underlying36)
  have HR := Lib.hid hr
  clear hr
  go_enter Tryz.func109, Tryz.ntmps109
  go_wp2_with fail
  go_loopw [3, 4, 5, 6, 7] (fun ov iv _ _ _ wr => ∃ k : Nat, iv = .int .i64 k ∧ k ≤ zs.length ∧ wr.ownsRow w.heap.size 3 1 ov k (ints (srtZ (zs.take k))) ∧ Below w.heap.size w wr) (fun _ iv _ _ _ _ => zs.length - (intOf iv).toNat)
  case atStart => exact ⟨0, rfl, Nat.zero_le _, ⟨by simp [srtZ, ints], .inl ⟨rfl, rfl⟩⟩, Below.refl _ _⟩
  case round =>
    obtain ⟨k, rfl, hk, hown, hbw⟩ := hrel
    have HBW := Lib.hid hbw
    have hsz := hbw.size
    by_cases hlt : k < zs.length
    · obtain ⟨b, o, u, rfl, hb, hu, q0⟩ := HR.out.at1 hlt
      obtain ⟨x, ht, rfl⟩ := ints_get hu
      have HLX := Lib.hid (show ∀ Y, Below w.heap.size w Y → Y.cell? ⟨b, o + k, none⟩ = some (.int .i64 x) from fun Y hY => (hY.cell (p := ⟨b, o + k, none⟩) hb).trans q0)
      have qk := HLX.out wr hbw
      clear q0
      obtain ⟨A', cap, rfl, hkc, _, _⟩ := ownsRow_shape hown
      obtain ⟨S, hS⟩ : ∃ S, S = srtZ (zs.take k) := ⟨_, rfl⟩
      have hpw : S.Pairwise (· ≤ ·) := by rw [hS]; exact srtZ_pw _
      have hSl : S.length = k := by rw [hS, srtZ_length, List.length_take]; omega
      have HINS := Lib.hid (show ∀ a, (∀ y ∈ S.take a, y ≤ x) → (∀ y ∈ S.drop a, x ≤ y) → S.take a ++ x :: S.drop a = srtZ (zs.take (k + 1)) from fun a h1 h2 => by
        rw [List.take_add_one, ht]
        rw [hS] at h1 h2 ⊢
        exact ins_srt h1 h2)
      rw [← hS] at hown
      have HOW := Lib.hid hown
      have HPW := Lib.hid hpw
      have HSL := Lib.hid hSl
      obtain ⟨W, hW⟩ : ∃ z : World, z = wr := ⟨_, rfl⟩
      subst hW
      clear hu ht hS hpw hSl hown hbw
      go_wp2_with fail
      go_loopw [5, 6, 7] (fun lo hi _ wz => ∃ a d : Nat, lo = .int .i64 a ∧ hi = .int .i64 d ∧ a ≤ d ∧ d ≤ k ∧ Hid (∀ y ∈ S.take a, y ≤ x) ∧ Hid (∀ y ∈ S.drop d, x ≤ y) ∧ ∃ q, wz = W.drewN q) (fun lo hi _ _ => (intOf hi - intOf lo).toNat)
      case atStart => exact ⟨0, k, rfl, rfl, Nat.zero_le _, Nat.le_refl _, Lib.hid (fun y hy => by simp at hy), Lib.hid (fun y hy => by rw [List.drop_of_length_le (by rw [HSL.out]; exact Nat.le_refl _)] at hy; cases hy), 0, rfl⟩
      case round =>
        obtain ⟨a, d, rfl, rfl, had, hdk, HLO, HHI, q, rfl⟩ := hrel
        by_cases hin : a < d
        · obtain ⟨m, hm⟩ : ∃ m, m = (a + d) / 2 := ⟨_, rfl⟩
          have hm1 : ((a : Int) + d) / 2 = (m : Int) := by rw [hm]; omega
          have hm2 : a ≤ m := by omega
          have hm3 : m < d := by omega
          have HM := Lib.hid (And.intro hm1 (And.intro hm2 hm3))
          obtain ⟨b2, o2, u2, rfl, hb2, hu2, q2⟩ := (Rd.of_own HOW.out).at1 (show m < k by omega)
          obtain ⟨y, hy, rfl⟩ := ints_get hu2
          have i1 : (m : Int) < (k : Int) := by omega
          by_cases hle : y ≤ x
          · have t1 : decide (y ≤ x) = true := by simpa using hle
            have HLO2 := Lib.hid (half_lo HPW.out hy hle (Nat.le_refl (m + 1)))
            clear hu2 hy hm hle
            go_wp2_with fail
            go_quiet (fail)
            go_wp2
            go_roundw
            case rel => exact ⟨m + 1, d, by first | go_num | (rw [HM.out.1]; go_num), rfl, by have := HM.out; omega, by omega, HLO2, HHI, _, by first | rfl | (rw [drewN_add, drewN_add]) | (rw [drewN_add])⟩
            case measure => have := HM.out; simp [intOf]; omega
          · have t1 : decide (y ≤ x) = false := by simpa using hle
            have HHI2 := Lib.hid (half_hi HPW.out hy (show x < y by omega))
            clear hu2 hy hm hle
            go_wp2_with fail
            go_quiet (fail)
            go_wp2
            go_roundw
            case rel => exact ⟨a, m, rfl, by first | rfl | rw [HM.out.1], by have := HM.out; omega, by have := HM.out; omega, HLO, HHI2, _, by first | rfl | (rw [drewN_add, drewN_add]) | (rw [drewN_add])⟩
            case measure => have := HM.out; simp [intOf]; omega
        · obtain rfl : a = d := by omega
          have hin2 : a ≤ k := hdk
          have HES := Lib.hid (HINS.out a HLO.out HHI.out)
          have HOD := Lib.hid (show (W.drewN q).ownsRow w.heap.size 3 1 (.slice A' k cap) k (ints S) from HOW.out)
          have HBD := Lib.hid (show Below w.heap.size w (W.drewN q) from below_drewN HBW.out q)
          obtain ⟨X, hX⟩ : ∃ X, X = W.drewN q := ⟨_, rfl⟩
          rw [← hX] at HOD HBD ⊢
          have hsX : w.heap.size ≤ X.heap.size := HBD.out.size
          clear hX
          go_wp2_with (at_builtin; refine wpList_append_own _ rfl (.tmp 35) (.tmp 36) 36 rfl w.heap.size 3 i0 _ 1 8 Tryz.underlying36 hi0 hz0 hz1 hz2 rfl (by decide) _ k (ints S) rfl (HOD.out.alloc _) ⟨X.heap.size, 0, none⟩ 1 1 [.int .i64 0] rfl rfl (cell_one_new X _ 3) (by simp [Value.oneCell']) (by unfold maxLen; omega) (by omega) (by simp; omega) ?_)
          intro v' w6 hown6 hgr6 _
          have HB6 := Lib.hid (show Below w.heap.size w w6 from (HBD.out.alloc (by omega) _).trans ((Fr.of_grown hgr6).below (B := w.heap.size) (by simp; omega) (fun i hi hm => by have := (ownsRow_block HOD.out hm).1; omega)))
          have hs6 := HB6.out.size
          obtain ⟨g, cp, R, rfl, hg0, hgc, hcl, hkc6, hcm, _⟩ := ownsRow_cells hown6 (by omega)
          have HGC := Lib.hid hgc
          have HCL := Lib.hid hcl
          have hgl := heap_lt hgc
          clear hown6 hgr6 hgc hcl
          have i1 : (a : Int) + 1 ≤ (k : Int) + 1 := by omega
          have i2 : (a : Int) ≤ (k : Int) + 1 := by omega
          have i3 : a + 1 ≤ cp := by omega
          have r1 : IntKind.i64.wrap ((a : Int) + 1) = (a : Int) + 1 := IntWalk.i64_in _ (by omega)
          have r2 : (0 : Int) ≤ (a : Int) + 1 := by omega
          have r3 : ((a : Int) + 1).toNat = a + 1 := by omega
          have HGD := Lib.hid (show w6.drew.heap[g]? = some (.cells (ints S ++ [Value.int .i64 0] ++ R).toArray 3 (0, 0)) from HGC.out)
          have HBX := Lib.hid (show Below w.heap.size w w6.drew from HB6.out.drew)
          have HN1 := Lib.hid (show (ints (S.drop a)).length = Nat.min (k + 1 - a) (k - a) by rw [ints_length, List.length_drop, HSL.out]; simp [Nat.min_def]; omega)
          have HPOS := Lib.hid (show 0 < (ints (S.drop a)).length → (if cp = a + 1 then some (⟨g, 0, none⟩ : Addr) else some ⟨g, a + 1, none⟩) = some ⟨g, a + 1, none⟩ ∧ ∃ ad, (if cp = a then some (⟨g, 0, none⟩ : Addr) else some ⟨g, a, none⟩) = some ad ∧ ∀ j v, (ints (S.drop a))[j]? = some v → w6.drew.cell? (ad.add j) = some v from fun hp => by
            rw [ints_length, List.length_drop, HSL.out] at hp
            refine ⟨if_neg (by omega), ⟨g, a, none⟩, if_neg (by omega), fun j v hj => ?_⟩
            have ea : (⟨g, a, none⟩ : Addr).add j = ⟨g, a + j, none⟩ := by unfold Addr.add; split <;> simp_all
            rw [ea, cellsAt HGD.out]
            have hjl : j < k - a := by have := (List.getElem?_eq_some_iff.1 hj).1; rwa [ints_length, List.length_drop, HSL.out] at this
            simp only [List.getElem?_toArray]
            rw [List.append_assoc, List.getElem?_append_left (by rw [ints_length, HSL.out]; omega)]
            rw [← hj]
            simp [ints, List.getElem?_drop])
          have HFIT := Lib.hid (show a + 1 + (ints (S.drop a)).length ≤ (ints S ++ [Value.int .i64 0] ++ R).length by simp [ints, HSL.out]; omega)
          have HONE := Lib.hid (show ∀ v ∈ ints (S.drop a), v.oneCell' = true from fun v hv => by
            unfold ints at hv; obtain ⟨z, _, rfl⟩ := List.mem_map.1 hv; rfl)
          obtain ⟨cs, hcs⟩ : ∃ cs, cs = ints (S.drop a) := ⟨_, rfl⟩
          obtain ⟨cur, hcur⟩ : ∃ cur, cur = ints S ++ [Value.int .i64 0] ++ R := ⟨_, rfl⟩
          rw [← hcs] at HN1 HPOS HFIT HONE
          rw [← hcur] at HGD HFIT
          have HCS := Lib.hid hcs
          have HCUR := Lib.hid hcur
          clear hcs hcur
          go_wp2_with fail
          go_region_law (refine step_copy_splice (by rfl) (.tmp 41) (.tmp 44) 36 36 (by rfl) 3 HUI.out HSZ.out (if cp = a + 1 then some ⟨g, 0, none⟩ else some ⟨g, a + 1, none⟩) (if cp = a then some ⟨g, 0, none⟩ else some ⟨g, a, none⟩) (k - a) (cp - (a + 1)) (k + 1 - a) (cp - a) (by go_simp) (by go_simp) g (a + 1) cur 3 HGD.out cs HN1.out HPOS.out HFIT.out HONE.out w.heap.size w HBX.out hg0 ?_; intro w7 HG7 hb7)
          all_goals
            have HBF := Lib.hid hb7
            have HG8 := Lib.hid (show w7.heap[g]? = some (.cells (splice cur (a + 1) cs).toArray 3 (0, 0)) from HG7)
            have q7 := HLX.out w7 hb7
            have hln : a < (splice cur (a + 1) cs).length := by rw [length_splice _ _ _ HFIT.out]; have := HFIT.out; omega
            obtain ⟨y0, hy0⟩ : ∃ y0, (splice cur (a + 1) cs)[a]? = some y0 := ⟨_, List.getElem?_eq_getElem hln⟩
            have p1 : w7.cell? ⟨g, a, none⟩ = some y0 := by rw [cellsAt HG8.out]; simpa using hy0
            have p2 : w7.frozen? ⟨g, a, none⟩ = false := frozenAt HG8.out a
            have HFN := Lib.hid (show (w7.setCell ⟨g, a, none⟩ (.int .i64 x)).ownsRow w.heap.size 3 1 (.slice (some ⟨g, 0, none⟩) (k + 1) cp) (k + 1) (ints (srtZ (zs.take (k + 1)))) by
              have e1 : (w7.setCell ⟨g, a, none⟩ (.int .i64 x)).heap[g]? = some (.cells (ints (srtZ (zs.take (k + 1))) ++ R).toArray 3 (0, 0)) := by
                simp only [World.setCell, Array.getElem?_modify, HG8.out, if_true, Option.map_some]
                congr 2
                rw [List.setIfInBounds_toArray, HCUR.out, HCS.out, splice_set S 0 x R (by rw [HSL.out]; exact hin2), HES.out]
                try simp
              have e2 : (ints (srtZ (zs.take (k + 1)))).length = k + 1 := by rw [ints_length, srtZ_length, List.length_take]; omega
              have := ownsRow_of_cells (xs := ints (srtZ (zs.take (k + 1)))) hg0 e1 (by rw [← HCL.out]; simp only [List.length_append, e2, ints_length, HSL.out, List.length_singleton]) hcm
              rw [e2] at this
              exact this)
            clear HG7 hb7 hln hy0
            go_wp2
            go_roundw
            case rel => exact ⟨k + 1, by go_num, by omega, HFN.out, HBF.out.setCell hg0 _⟩
            case measure => simp [intOf]; omega
    · obtain rfl : k = zs.length := by omega
      rw [List.take_of_length_le (Nat.le_refl _)] at hown
      obtain ⟨A', c', rfl, _, _, _⟩ := ownsRow_shape hown
      have HRD := Lib.hid ((Rd.of_own hown).more (Nat.zero_le _) (Nat.le_refl _))
      have HLL := Lib.hid (srtZ_length zs)
      clear hown hbw
      go_wp2
      go_ret
      exact ⟨A', c', by rw [HLL.out]; rfl, by rw [HLL.out]; exact HRD.out, HBW.out⟩
end Go.Proofs.YtkoodmoilfgafaaGreatDoor
