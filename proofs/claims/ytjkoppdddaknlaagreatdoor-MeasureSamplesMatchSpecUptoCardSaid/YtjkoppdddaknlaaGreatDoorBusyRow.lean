/- slices.Sort and slices.Compact at a row of the call's own; what a sorted list without its repetitions is. -/
import Derived.Test.YtjkoppdddaknlaaGreatDoorHist
import Derived.Lib.RowBridge
import Derived.Sort.Grow
namespace Go.Proofs.YtjkoppdddaknlaaGreatDoor
open Go Go.RowKit Go.Proofs Go.Sort Go.Lib

theorem compact_step (d : Array Int) (hd : ∀ i j, i ≤ j → j < d.size → d[i]! ≤ d[j]!) : ∀ m, m ≤ d.size → (compactUpTo d m).Pairwise (· < ·) ∧ ∀ t, t ∈ compactUpTo d m ↔ ∃ j, j < m ∧ d[j]! = t
  | 0, _ => by simp [compactUpTo]
  | m + 1, hm => by
    obtain ⟨h1, h2⟩ := compact_step d hd m (by omega)
    rw [compactUpTo_succ]
    by_cases hk : keeps d m = true
    · rw [if_pos hk]
      refine ⟨?_, fun t => ?_⟩
      · rw [List.pairwise_append]
        refine ⟨h1, by simp, fun a ha b hb => ?_⟩
        simp only [List.mem_singleton] at hb
        subst hb
        obtain ⟨j, hj, rfl⟩ := (h2 a).1 ha
        have hne : d[m]! ≠ d[m - 1]! := by simp [keeps] at hk; omega
        have g1 := hd j (m - 1) (by omega) (by omega)
        have g2 := hd (m - 1) m (by omega) (by omega)
        omega
      · rw [List.mem_append, h2 t, List.mem_singleton]
        constructor
        · rintro (⟨j, hj, e⟩ | rfl)
          · exact ⟨j, by omega, e⟩
          · exact ⟨m, by omega, rfl⟩
        · rintro ⟨j, hj, e⟩
          by_cases hjm : j = m
          · subst hjm; exact .inr e.symm
          · exact .inl ⟨j, by omega, e⟩
    · rw [if_neg hk, List.append_nil]
      refine ⟨h1, fun t => ?_⟩
      rw [h2 t]
      have hq : 0 < m ∧ d[m]! = d[m - 1]! := by simp [keeps] at hk; omega
      constructor
      · rintro ⟨j, hj, e⟩; exact ⟨j, by omega, e⟩
      · rintro ⟨j, hj, e⟩
        by_cases hjm : j = m
        · subst hjm; exact ⟨j - 1, by omega, by rw [← hq.2]; exact e⟩
        · exact ⟨j, by omega, e⟩
/-- a sorted list without its repetitions -/
theorem compact_sorted (zs : List Int) (h : zs.Pairwise (· ≤ ·)) : (compact zs).Pairwise (· < ·) ∧ ∀ t, t ∈ compact zs ↔ t ∈ zs := by
  rw [List.pairwise_iff_getElem] at h
  obtain ⟨h1, h2⟩ := compact_step zs.toArray (fun i j hij hj => by
    have hj' : j < zs.length := by simpa using hj
    rcases Nat.lt_or_ge i j with hlt | hge
    · have := h i j (by omega) hj' hlt
      simpa [getElem!_pos, hj', show i < zs.length by omega] using this
    · have : i = j := by omega
      subst this; exact Int.le_refl _) zs.length (by simp)
  refine ⟨h1, fun t => (h2 t).trans ?_⟩
  constructor
  · rintro ⟨j, hj, e⟩
    have hj' : j < zs.length := hj
    rw [← e, getElem!_pos _ _ (by simpa using hj')]
    simp
  · intro ht
    obtain ⟨j, hj, e⟩ := List.getElem_of_mem ht
    exact ⟨j, hj, by rw [getElem!_pos _ _ (by simpa using hj)]; simpa using e⟩

theorem fr_putRow (w : World) (q g o : Nat) (d : Array Int) : Fr (fun i => i = g) w (putRow (Value.int .i64) (Sort.ahead w q) g o d) := by
  refine ⟨rfl, rfl, rfl, by simp, fun i hi hm => ?_⟩
  show (w.heap.modify g _)[i]? = _
  rw [Array.getElem?_modify, if_neg (fun e => hm e.symm)]
theorem fr_growRow (w : World) (os : Array Obj) : Fr (fun _ => False) w (grow w os) := ⟨rfl, rfl, rfl, by simp, fun i hi _ => heap_grow_old w os hi⟩
theorem holds_own {w : World} {base g n cap : Nat} {e : TypeId} {zs : List Int} (h : w.ownsRow base e 1 (.slice (some ⟨g, 0, none⟩) n cap) n (ints zs)) : Holds (Value.int .i64) w g 0 zs.toArray := by
  have hl : zs.length = n := by have := h.1; rw [ints_length] at this; omega
  rcases h.2 with ⟨hv, _⟩ | ⟨g', cap', cur, hv, _, hh, _, _, hsz, htk⟩
  · cases hv
  · cases hv
    intro j hj
    have hj' : j < zs.length := by simpa using hj
    refine ⟨?_, frozenAt hh _⟩
    rw [cellsAt hh, Nat.zero_add]
    have h1 : (ints zs)[j]? = some (.int .i64 zs[j]) := by simp [ints, hj']
    rw [← htk, List.getElem?_take] at h1
    split at h1
    · rw [getElem!_pos _ _ (by simpa using hj')]
      simpa using h1
    · cases h1

/-- slices.Sort: the row is sorted, all else is as it was -/
theorem sort_any (base n : Nat) (v : Value) (zs : List Int) (w : World) (h : w.ownsRow base 3 1 v n (ints zs)) (hn : n < 1000000) :
    Calls Tryz.prog 37 #[v] w fun e w' => e = .returned (.tuple #[]) ∧ Fr (fun i => some i = v.ownBlock) w w' ∧ (0 < n → ∃ g cap, v = .slice (some ⟨g, 0, none⟩) n cap ∧ Holds (Value.int .i64) w' g 0 (zs.mergeSort fun x y => decide (x ≤ y)).toArray) := by
  have hl : zs.length = n := by have := h.1; rw [ints_length] at this; omega
  rcases Nat.eq_zero_or_pos n with h0 | h0
  · subst h0
    obtain ⟨A, cap, rfl, _, _, _⟩ := ownsRow_shape h
    refine (Tryz.slices_Sort_int_none A cap w).mono ?_
    rintro e w' ⟨rfl, rfl⟩
    exact ⟨rfl, Fr.refl _ _, fun h => absurd h (by omega)⟩
  · obtain ⟨g, cap, rfl, hgb, hgl, _, _⟩ := ownsRow_some h h0
    subst hl
    refine (Tryz.slices_Sort_int g 0 cap zs w (holds_own h) hgl (by omega)).mono ?_
    rintro e w' ⟨rfl, q, os, rfl⟩
    refine ⟨rfl, ?_, fun _ => ⟨g, cap, rfl, ?_⟩⟩
    · refine Fr.trans ((fr_putRow w q g 0 _).mono ?_) (fr_growRow _ os) (fun i _ h => absurd h (by simp))
      intro i _ hi; subst hi; rfl
    · exact holds_grow _ _ _ _ _ _ (by simpa using hgl) (holds_putRow _ _ _ _ zs.toArray _ (holds_own h) (by simp))
/-- slices.Compact behind it -/
theorem compact_any (g n cap : Nat) (zs : List Int) (w : World) (h : Holds (Value.int .i64) w g 0 zs.toArray) (hl : zs.length = n) (hn : n < 1000000) (hc : n ≤ cap) :
    Calls Tryz.prog 38 #[.slice (some ⟨g, 0, none⟩) n cap] w fun e w' => e = .returned (.slice (some ⟨g, 0, none⟩) (compact zs).length cap) ∧ Fr (fun i => i = g) w w' ∧ Rd w' g (g + 1) 1 (some ⟨g, 0, none⟩) (compact zs).length (ints (compact zs)) := by
  subst hl
  refine (Tryz.slices_Compact_int g 0 cap zs w h (by omega) hc).mono ?_
  rintro e w' ⟨rfl, q, rfl⟩
  refine ⟨rfl, fr_putRow w q g 0 _, by rw [ints_length]; omega, fun _ => ⟨g, 0, rfl, Nat.le_refl _, by omega, fun j u hu => ?_⟩⟩
  obtain ⟨z, hz, rfl⟩ := ints_get hu
  have hj := (List.getElem?_eq_some_iff.1 hz).1
  have hle := compact_length_le zs
  have hsz : (compact zs ++ List.replicate (zs.length - (compact zs).length) 0).length = zs.length := by simp; omega
  have hq := holds_putRow (Value.int .i64) (Sort.ahead w q) g 0 zs.toArray (compact zs ++ List.replicate (zs.length - (compact zs).length) 0).toArray h (by simpa using hsz)
  have := (hq j (by rw [List.size_toArray]; omega)).1
  rw [this, getElem!_pos _ _ (by rw [List.size_toArray]; omega)]
  simp only [List.getElem_toArray]
  rw [List.getElem_append_left hj, (List.getElem?_eq_some_iff.1 hz).2]
/-- slices.Compact behind slices.Sort: the elements, each once, in order -/
theorem compact_own (base n cap : Nat) (A : Option Addr) (zs : List Int) (wr w2 : World) (hown : wr.ownsRow base 3 1 (.slice A n cap) n (ints zs)) (hf : Fr (fun i => some i = (Value.slice A n cap).ownBlock) wr w2)
    (hh : 0 < n → ∃ g cap', Value.slice A n cap = .slice (some ⟨g, 0, none⟩) n cap' ∧ Holds (Value.int .i64) w2 g 0 (zs.mergeSort fun x y => decide (x ≤ y)).toArray) (hn : n < 1000000) :
    Calls Tryz.prog 38 #[.slice A n cap] w2 fun e w' => ∃ ts, e = .returned (.slice A ts.length cap) ∧ Fr (fun i => some i = (Value.slice A n cap).ownBlock) w2 w' ∧ Rd w' base wr.heap.size 1 A ts.length (ints ts) ∧ ts.Pairwise (· < ·) ∧ (∀ t, t ∈ ts ↔ t ∈ zs) ∧ ts.length ≤ n := by
  have hl : zs.length = n := by have := hown.1; rw [ints_length] at this; omega
  rcases Nat.eq_zero_or_pos n with h0 | h0
  · subst h0
    refine (Tryz.slices_Compact_int_empty A cap w2).mono ?_
    rintro e w' ⟨rfl, rfl⟩
    have hz : zs = [] := List.length_eq_zero_iff.1 hl
    subst hz
    exact ⟨[], rfl, Fr.refl _ _, Rd.nil, List.Pairwise.nil, fun t => Iff.rfl, Nat.zero_le _⟩
  · obtain ⟨g, cap', e, hH⟩ := hh h0
    cases e
    have hb := ownsRow_block hown (i := g) rfl
    have hnc : n ≤ cap := by
      obtain ⟨A', cap'', e, h1, _⟩ := ownsRow_shape hown
      cases e; exact h1
    have hz : (zs.mergeSort fun x y => decide (x ≤ y)).length = n := (List.length_mergeSort _).trans hl
    refine (compact_any g n cap _ w2 hH hz hn hnc).mono ?_
    rintro e w' ⟨rfl, hf', hrd⟩
    have hs : (zs.mergeSort fun x y => decide (x ≤ y)).Pairwise (· ≤ ·) := by
      have := List.pairwise_mergeSort (le := fun x y : Int => decide (x ≤ y)) (fun a b c h1 h2 => by simp at *; omega) (fun a b => by simp; omega) zs
      exact this.imp (fun h => by simpa using h)
    obtain ⟨c1, c2⟩ := compact_sorted _ hs
    refine ⟨_, rfl, hf'.mono (fun i _ hi => by subst hi; rfl), hrd.more hb.1 (by omega), c1, fun t => (c2 t).trans List.mem_mergeSort, ?_⟩
    have := compact_length_le (zs.mergeSort fun x y => decide (x ≤ y))
    omega
end Go.Proofs.YtjkoppdddaknlaaGreatDoor
