/- Samples: what the reference's Busy and Worst tell, against the program's. No program in sight. -/
import Derived.Test.YtjkoppdddaknlaaGreatDoorBusyMath
namespace Go.Proofs.YtjkoppdddaknlaaGreatDoor
open Go

/-- how many requests are under way at a time -/
def und (l : List (Int × Int)) (t : Int) : Int := l.countP (fun s => decide (s.1 ≤ t) && decide (t < s.1 + s.2))
theorem und_cons (s : Int × Int) (l : List (Int × Int)) (t : Int) : und (s :: l) t = und l t + if s.1 ≤ t ∧ t < s.1 + s.2 then 1 else 0 := by
  unfold und
  rw [List.countP_cons]
  by_cases h : s.1 ≤ t ∧ t < s.1 + s.2
  · simp [h.1, h.2]
  · rw [if_neg h]
    have : ¬ ((decide (s.1 ≤ t) && decide (t < s.1 + s.2)) = true) := by simpa using h
    rw [if_neg this]; simp
theorem stp_cons (s : Int × Int) (l : List (Int × Int)) (t : Int) : stp (s :: l) t = stp l t + (if t = s.1 then 1 else 0) - (if t = s.1 + s.2 then 1 else 0) := by
  unfold stp
  simp only [List.countP_cons]
  have h1 : ((s.1 == t) = true) ↔ t = s.1 := by simp; exact eq_comm
  have h2 : ((s.1 + s.2 == t) = true) ↔ t = s.1 + s.2 := by simp; exact eq_comm
  simp only [h1, h2]
  split <;> split <;> omega
theorem sm_ind (a : Int) (ts : List Int) (h : ts.Pairwise (· < ·)) : sm (fun t => if t = a then 1 else 0) ts = if a ∈ ts then 1 else 0 := by
  have := sm_one (fun _ => 1) a ts h
  simpa using this
theorem mem_takeS {ts : List Int} (h : ts.Pairwise (· < ·)) {i : Nat} {t a : Int} (ht : ts[i]? = some t) : a ∈ ts.take (i + 1) ↔ a ∈ ts ∧ a ≤ t := by
  obtain ⟨hi, rfl⟩ := List.getElem?_eq_some_iff.1 ht
  have hp := List.pairwise_iff_getElem.1 h
  constructor
  · intro ha
    refine ⟨List.mem_of_mem_take ha, ?_⟩
    obtain ⟨j, hj, rfl⟩ := List.getElem_of_mem ha
    rw [List.length_take] at hj
    rw [List.getElem_take]
    rcases Nat.lt_or_ge j i with h1 | h1
    · have := hp j i (by omega) hi h1; omega
    · obtain rfl : j = i := by omega
      exact Int.le_refl _
  · rintro ⟨ha, hle⟩
    obtain ⟨j, hj, rfl⟩ := List.getElem_of_mem ha
    have hji : j ≤ i := by
      rcases Nat.lt_or_ge i j with h1 | h1
      · have := hp i j hi hj h1; omega
      · exact h1
    exact List.mem_take_iff_getElem.2 ⟨j, by omega, rfl⟩
theorem take_sortS {ts : List Int} (h : ts.Pairwise (· < ·)) (k : Nat) : (ts.take k).Pairwise (· < ·) := h.sublist (List.take_sublist _ _)
/-- the steps up to a time, added up, are the requests under way -/
theorem und_sm (ts : List Int) (h : ts.Pairwise (· < ·)) {i : Nat} {t : Int} (ht : ts[i]? = some t) : ∀ (l : List (Int × Int)), (∀ s ∈ l, 0 ≤ s.2) → (∀ s ∈ l, s.1 ∈ ts ∧ s.1 + s.2 ∈ ts) → sm (stp l) (ts.take (i + 1)) = und l t
  | [], _, _ => by
    rw [stp_nil]
    have : ∀ l : List Int, sm (fun _ => 0) l = 0 := fun l => by induction l with
      | nil => rfl
      | cons a l ih => rw [sm_cons, ih]; rfl
    rw [this]; rfl
  | s :: l, h0, hm => by
    have ih := und_sm ts h ht l (fun x hx => h0 x (List.mem_cons_of_mem _ hx)) (fun x hx => hm x (List.mem_cons_of_mem _ hx))
    have e : stp (s :: l) = fun t => (stp l t + (if t = s.1 then 1 else 0)) - (if t = s.1 + s.2 then 1 else 0) := by funext t; exact stp_cons s l t
    rw [e, sm_sub, sm_add, ih, sm_ind _ _ (take_sortS h _), sm_ind _ _ (take_sortS h _), und_cons]
    have m1 := mem_takeS h ht (a := s.1)
    have m2 := mem_takeS h ht (a := s.1 + s.2)
    have hs := hm s (List.mem_cons_self ..)
    have hd := h0 s (List.mem_cons_self ..)
    have c1 : s.1 ∈ ts.take (i + 1) ↔ s.1 ≤ t := by rw [m1]; exact ⟨fun x => x.2, fun x => ⟨hs.1, x⟩⟩
    have c2 : s.1 + s.2 ∈ ts.take (i + 1) ↔ s.1 + s.2 ≤ t := by rw [m2]; exact ⟨fun x => x.2, fun x => ⟨hs.2, x⟩⟩
    simp only [c1, c2]
    split <;> split <;> split <;> omega
/-- two rising lists of the same members are one -/
theorem rise_one {a b : List Int} (ha : a.Pairwise (· < ·)) (hb : b.Pairwise (· < ·)) (h : ∀ t, t ∈ a ↔ t ∈ b) : a = b := by
  have na : a.Nodup := ha.imp (fun {x y} h => by omega)
  have nb : b.Nodup := hb.imp (fun {x y} h => by omega)
  exact List.Perm.eq_of_pairwise (le := (· < ·)) (fun x y _ _ h1 h2 => by omega) ha hb ((List.perm_ext_iff_of_nodup na nb).2 h)
/-- the reference's step: the same list of changes -/
theorem chg_ref (l : List (Int × Int)) (hl : ∀ s ∈ l, 0 ≤ s.2) (ts : List Int) (h : ts.Pairwise (· < ·)) (hm : ∀ s ∈ l, s.1 ∈ ts ∧ s.1 + s.2 ∈ ts) {i : Nat} {t : Int} (ht : ts[i]? = some t) :
    und l t = sm (stp l) (ts.take i) + stp l t ∧ chg (stp l) (ts.take (i + 1)) = (if und l t = sm (stp l) (ts.take i) then chg (stp l) (ts.take i) else chg (stp l) (ts.take i) ++ [(t, und l t)]) := by
  have e1 := und_sm ts h ht l hl hm
  have e2 : ts.take (i + 1) = ts.take i ++ [t] := by rw [List.take_add_one, ht]; rfl
  have e3 : und l t = sm (stp l) (ts.take i) + stp l t := by rw [← e1, e2, sm_snoc]
  refine ⟨e3, ?_⟩
  rw [e2, chg_step, ← e2, e1]
  by_cases h0 : stp l t = 0
  · rw [if_pos h0, if_pos (by omega)]
  · rw [if_neg h0, if_neg (by omega)]
/-- Worst: which of two samples comes first -/
def ltW (d : Nat → Int) (i j : Nat) : Prop := d j < d i ∨ (d i = d j ∧ i < j)
instance (d : Nat → Int) (i j : Nat) : Decidable (ltW d i j) := inferInstanceAs (Decidable (_ ∨ _))
theorem ltW_trans {d : Nat → Int} {i j k : Nat} (h1 : ltW d i j) (h2 : ltW d j k) : ltW d i k := by unfold ltW at *; omega
theorem ltW_total {d : Nat → Int} {i j : Nat} (h : i ≠ j) : ltW d i j ∨ ltW d j i := by unfold ltW; omega
theorem ltW_irr {d : Nat → Int} {i : Nat} : ¬ ltW d i i := by unfold ltW; omega
/-- the order of the worst -/
def worst (d : Nat → Int) (n : Nat) : List Nat := (List.range n).mergeSort (fun i j => decide (ltW d i j ∨ i = j))
theorem worst_perm (d : Nat → Int) (n : Nat) : (worst d n).Perm (List.range n) := List.mergeSort_perm _ _
theorem worst_nodup (d : Nat → Int) (n : Nat) : (worst d n).Nodup := (worst_perm d n).nodup_iff.2 List.nodup_range
theorem worst_len (d : Nat → Int) (n : Nat) : (worst d n).length = n := by rw [(worst_perm d n).length_eq, List.length_range]
theorem worst_mem {d : Nat → Int} {n i : Nat} : i ∈ worst d n ↔ i < n := by rw [(worst_perm d n).mem_iff, List.mem_range]
theorem worst_sort (d : Nat → Int) (n : Nat) : (worst d n).Pairwise (ltW d) := by
  have h := List.pairwise_mergeSort (le := fun i j => decide (ltW d i j ∨ i = j)) (by
    intro a b c h1 h2
    simp only [decide_eq_true_iff] at *
    rcases h1 with h1 | rfl
    · rcases h2 with h2 | rfl
      · exact .inl (ltW_trans h1 h2)
      · exact .inl h1
    · exact h2) (by
    intro a b
    by_cases e : a = b
    · simp [e]
    · rcases ltW_total (d := d) e with h | h <;> simp [h]) (List.range n)
  have hn := worst_nodup d n
  have h2 := h.and hn
  exact h2.imp (fun {a b} h3 => by
    obtain ⟨h3, h4⟩ := h3
    simp only [decide_eq_true_iff] at h3
    rcases h3 with h3 | h3
    · exact h3
    · exact absurd h3 h4)
/-- a list that is sorted so is it -/
theorem worst_one {d : Nat → Int} {n : Nat} {l : List Nat} (hp : l.Perm (List.range n)) (hs : l.Pairwise (ltW d)) : l = worst d n :=
  List.Perm.eq_of_pairwise (le := ltW d) (fun x y _ _ h1 h2 => by unfold ltW at *; omega) hs (worst_sort d n) (hp.trans (worst_perm d n).symm)
/-- the reference's search: best is the first of those below m that are not taken yet -/
def BestW (d : Nat → Int) (n k m : Nat) (best : Int) : Prop := (best < 0 ∧ ∀ i, i < m → i ∈ (worst d n).take k) ∨ (∃ b : Nat, best = b ∧ b < m ∧ b ∉ (worst d n).take k ∧ ∀ i, i < m → i ∉ (worst d n).take k → i = b ∨ ltW d b i)
theorem BestW.zero (d : Nat → Int) (n k : Nat) : BestW d n k 0 (-1) := .inl ⟨by decide, fun i h => by omega⟩
theorem BestW.taken {d : Nat → Int} {n k m : Nat} {best : Int} (h : BestW d n k m best) (hm : m ∈ (worst d n).take k) : BestW d n k (m + 1) best := by
  rcases h with ⟨h1, h2⟩ | ⟨b, h1, h2, h3, h4⟩
  · exact .inl ⟨h1, fun i hi => by
      rcases Nat.lt_or_ge i m with h | h
      · exact h2 i h
      · obtain rfl : i = m := by omega
        exact hm⟩
  · refine .inr ⟨b, h1, by omega, h3, fun i hi hn => ?_⟩
    rcases Nat.lt_or_ge i m with h | h
    · exact h4 i h hn
    · obtain rfl : i = m := by omega
      exact absurd hm hn
theorem BestW.first {d : Nat → Int} {n k m : Nat} {best : Int} (h : BestW d n k m best) (hb : best < 0) (hm : m ∉ (worst d n).take k) : BestW d n k (m + 1) m := by
  rcases h with ⟨h1, h2⟩ | ⟨b, h1, _⟩
  · refine .inr ⟨m, rfl, by omega, hm, fun i hi hn => ?_⟩
    rcases Nat.lt_or_ge i m with h | h
    · exact absurd (h2 i h) hn
    · exact .inl (by omega)
  · omega
theorem BestW.more {d : Nat → Int} {n k m b : Nat} (h : BestW d n k m b) (hd : d b < d m) (hm : m ∉ (worst d n).take k) : BestW d n k (m + 1) m := by
  rcases h with ⟨h1, _⟩ | ⟨b', h1, h2, h3, h4⟩
  · omega
  · obtain rfl : b = b' := by omega
    refine .inr ⟨m, rfl, by omega, hm, fun i hi hn => ?_⟩
    rcases Nat.lt_or_ge i m with h | h
    · rcases h4 i h hn with rfl | h5
      · exact .inr (.inl hd)
      · exact .inr (ltW_trans (.inl hd) h5)
    · exact .inl (by omega)
theorem BestW.less {d : Nat → Int} {n k m b : Nat} (h : BestW d n k m b) (hd : ¬ d b < d m) : BestW d n k (m + 1) b := by
  rcases h with ⟨h1, _⟩ | ⟨b', h1, h2, h3, h4⟩
  · omega
  · obtain rfl : b = b' := by omega
    refine .inr ⟨b, rfl, by omega, h3, fun i hi hn => ?_⟩
    rcases Nat.lt_or_ge i m with h | h
    · exact h4 i h hn
    · obtain rfl : i = m := by omega
      refine .inr ?_
      unfold ltW
      omega
/-- the search's end: the next of the worst -/
theorem BestW.done {d : Nat → Int} {n k : Nat} {best : Int} (hk : k < n) (h : BestW d n k n best) : ∃ b : Nat, best = b ∧ (worst d n)[k]? = some b := by
  have hl := worst_len d n
  obtain ⟨x, hx⟩ : ∃ x, (worst d n)[k]? = some x := ⟨_, List.getElem?_eq_getElem (by omega)⟩
  obtain ⟨hkl, hxe⟩ := List.getElem?_eq_some_iff.1 hx
  have hxm : x < n := worst_mem.1 (List.mem_of_getElem? hx)
  have hxn : x ∉ (worst d n).take k := by
    intro hm
    obtain ⟨j, hj, he⟩ := List.mem_take_iff_getElem.1 hm
    have h5 := List.pairwise_iff_getElem.1 (worst_nodup d n) j k (by omega) hkl (by omega)
    exact h5 (he.trans hxe.symm)
  rcases h with ⟨_, h2⟩ | ⟨b, h1, h2, h3, h4⟩
  · exact absurd (h2 x hxm) hxn
  · refine ⟨b, h1, ?_⟩
    rcases h4 x hxm hxn with rfl | h5
    · exact hx
    · exfalso
      have hbm : b ∈ worst d n := worst_mem.2 h2
      obtain ⟨j, hj, he⟩ := List.getElem_of_mem hbm
      have hjk : k ≤ j := by
        rcases Nat.lt_or_ge j k with h | h
        · exact absurd (List.mem_take_iff_getElem.2 ⟨j, by omega, he⟩) h3
        · exact h
      rcases Nat.eq_or_lt_of_le hjk with h6 | h6
      · subst h6
        rw [hxe] at he
        subst he
        exact ltW_irr h5
      · have h7 := List.pairwise_iff_getElem.1 (worst_sort d n) k j hkl hj h6
        rw [hxe, he] at h7
        exact ltW_irr (ltW_trans h5 h7)
end Go.Proofs.YtjkoppdddaknlaaGreatDoor
