/- Merging in place by rotations, as slices.SortStableFunc does it: plain. -/
namespace Go.Proofs.YtjkoppdddaknlaaGreatDoor

section
variable {α : Type} {lt : α → α → Prop}
/-- the part [i, j) of a list -/
def sgm (l : List α) (i j : Nat) : List α := (l.drop i).take (j - i)
theorem sgm_length {l : List α} {i j : Nat} (hj : j ≤ l.length) : (sgm l i j).length = j - i := by
  unfold sgm; rw [List.length_take, List.length_drop]; omega
theorem sgm_get {l : List α} {i j k : Nat} (hk : i + k < j) : (sgm l i j)[k]? = l[i + k]? := by
  unfold sgm; rw [List.getElem?_take_of_lt (by omega), List.getElem?_drop]
theorem sgm_mem {l : List α} {i j : Nat} {x : α} (hj : j ≤ l.length) : x ∈ sgm l i j ↔ ∃ k, i ≤ k ∧ k < j ∧ l[k]? = some x := by
  constructor
  · intro h
    obtain ⟨k, hk⟩ := List.getElem?_of_mem h
    have hl := (List.getElem?_eq_some_iff.1 hk).1
    rw [sgm_length hj] at hl
    rw [sgm_get (by omega)] at hk
    exact ⟨i + k, by omega, by omega, hk⟩
  · rintro ⟨k, h1, h2, h3⟩
    refine List.mem_of_getElem? (i := k - i) ?_
    rw [sgm_get (by omega), show i + (k - i) = k by omega]
    exact h3
theorem sgm_self (l : List α) (i : Nat) : sgm l i i = [] := by simp [sgm]
theorem sgm_join {l : List α} {i j k : Nat} (h1 : i ≤ j) (h2 : j ≤ k) : sgm l i j ++ sgm l j k = sgm l i k := by
  unfold sgm
  rw [show k - i = (j - i) + (k - j) by omega, List.take_add, List.drop_drop, show i + (j - i) = j by omega]
theorem sgm_split {l : List α} {i j : Nat} (h1 : i ≤ j) : l.take i ++ sgm l i j ++ l.drop j = l := by
  unfold sgm
  rw [List.append_assoc]
  have : (l.drop i).take (j - i) ++ l.drop j = l.drop i := by
    have := List.take_append_drop (j - i) (l.drop i)
    rw [List.drop_drop, show i + (j - i) = j by omega] at this
    exact this
  rw [this, List.take_append_drop]
/-- [i, j) is sorted -/
def SrtOn (lt : α → α → Prop) (l : List α) (i j : Nat) : Prop := ∀ p q x y, i ≤ p → p < q → q < j → l[p]? = some x → l[q]? = some y → lt x y
/-- all of [i, j) come ahead of all of [j, k) -/
def Crs (lt : α → α → Prop) (l : List α) (i j k : Nat) : Prop := ∀ x ∈ sgm l i j, ∀ y ∈ sgm l j k, lt x y
/-- only [i, j) is another one, and of the same elements -/
structure PermOn (l l' : List α) (i j : Nat) : Prop where
  len : l'.length = l.length
  out : ∀ k, k < i ∨ j ≤ k → l'[k]? = l[k]?
  perm : (sgm l i j).Perm (sgm l' i j)
theorem PermOn.refl (l : List α) (i j : Nat) : PermOn l l i j := ⟨rfl, fun _ _ => rfl, .refl _⟩
theorem sgm_eq {l l' : List α} {i j : Nat} (h : ∀ k, i ≤ k → k < j → l'[k]? = l[k]?) : sgm l' i j = sgm l i j := by
  apply List.ext_getElem?
  intro k
  rcases Nat.lt_or_ge (i + k) j with h1 | h1
  · rw [sgm_get h1, sgm_get h1, h _ (by omega) h1]
  · unfold sgm
    rw [List.getElem?_take_eq_none (by omega), List.getElem?_take_eq_none (by omega)]
theorem SrtOn.empty (l : List α) {i j : Nat} (h : j ≤ i + 1) : SrtOn lt l i j := fun p q x y h1 h2 h3 _ _ => by omega
theorem SrtOn.eq {l l' : List α} {i j : Nat} (hs : SrtOn lt l i j) (h : ∀ k, i ≤ k → k < j → l'[k]? = l[k]?) : SrtOn lt l' i j :=
  fun p q x y h1 h2 h3 h4 h5 => hs p q x y h1 h2 h3 (by rw [← h p h1 (by omega)]; exact h4) (by rw [← h q (by omega) h3]; exact h5)
theorem SrtOn.sub {l : List α} {i j i' j' : Nat} (hs : SrtOn lt l i j) (h1 : i ≤ i') (h2 : j' ≤ j) : SrtOn lt l i' j' :=
  fun p q x y g1 g2 g3 g4 g5 => hs p q x y (by omega) g2 (by omega) g4 g5
theorem SrtOn.join {l : List α} {i j k : Nat} (hk : k ≤ l.length) (hij : i ≤ j) (hjk : j ≤ k) (h1 : SrtOn lt l i j) (h2 : SrtOn lt l j k) (hc : Crs lt l i j k) : SrtOn lt l i k := by
  intro p q x y g1 g2 g3 g4 g5
  rcases Nat.lt_or_ge q j with h | h
  · exact h1 p q x y g1 g2 h g4 g5
  · rcases Nat.lt_or_ge p j with h' | h'
    · exact hc x ((sgm_mem (by omega)).2 ⟨p, g1, h', g4⟩) y ((sgm_mem hk).2 ⟨q, h, g3, g5⟩)
    · exact h2 p q x y h' g2 g3 g4 g5
theorem PermOn.within {l l' : List α} {i j a b : Nat} (h : PermOn l l' i j) (hb : b ≤ l.length) (h1 : a ≤ i) (h2 : i ≤ j) (h3 : j ≤ b) : PermOn l l' a b := by
  refine ⟨h.len, fun k hk => h.out k (by omega), ?_⟩
  rw [← sgm_join h1 (by omega : i ≤ b), ← sgm_join (l := l') h1 (by omega : i ≤ b), ← sgm_join h2 h3, ← sgm_join (l := l') h2 h3]
  rw [sgm_eq (l := l) (l' := l') (i := a) (j := i) fun k _ hk => h.out k (by omega), sgm_eq (l := l) (l' := l') (i := j) (j := b) fun k hk _ => h.out k (by omega)]
  exact (List.Perm.refl _).append (h.perm.append (List.Perm.refl _))
theorem PermOn.trans {l l' l'' : List α} {i j : Nat} (h : PermOn l l' i j) (g : PermOn l' l'' i j) : PermOn l l'' i j :=
  ⟨g.len.trans h.len, fun k hk => (g.out k hk).trans (h.out k hk), h.perm.trans g.perm⟩
theorem Crs.perm {l l' : List α} {i j k : Nat} (hc : Crs lt l i j k) (h1 : (sgm l i j).Perm (sgm l' i j)) (h2 : (sgm l j k).Perm (sgm l' j k)) : Crs lt l' i j k :=
  fun x hx y hy => hc x (h1.mem_iff.2 hx) y (h2.mem_iff.2 hy)
/-- [s, m) and [m, e) change places -/
def rot (l : List α) (s m e : Nat) : List α := l.take s ++ (sgm l m e ++ (sgm l s m ++ l.drop e))
theorem rot_length {l : List α} {s m e : Nat} (h1 : s ≤ m) (h2 : m ≤ e) (h3 : e ≤ l.length) : (rot l s m e).length = l.length := by
  unfold rot
  simp only [List.length_append, sgm_length h3, sgm_length (show m ≤ l.length by omega), List.length_take, List.length_drop]
  omega
theorem rot_out {l : List α} {s m e k : Nat} (h1 : s ≤ m) (h2 : m ≤ e) (h3 : e ≤ l.length) (hk : k < s ∨ e ≤ k) : (rot l s m e)[k]? = l[k]? := by
  unfold rot
  have ha := sgm_length (l := l) (i := m) h3
  have hb := sgm_length (l := l) (i := s) (show m ≤ l.length by omega)
  rcases hk with hk | hk
  · rw [List.getElem?_append_left (by rw [List.length_take]; omega), List.getElem?_take_of_lt hk]
  · rw [List.getElem?_append_right (by rw [List.length_take]; omega), List.getElem?_append_right (by rw [List.length_take]; omega), List.getElem?_append_right (by rw [List.length_take]; omega), List.getElem?_drop, List.length_take]
    congr 1; omega
theorem rot_lo {l : List α} {s m e k : Nat} (h1 : s ≤ m) (h2 : m ≤ e) (h3 : e ≤ l.length) (g1 : s ≤ k) (g2 : k < s + (e - m)) : (rot l s m e)[k]? = l[k - s + m]? := by
  unfold rot
  have ha := sgm_length (l := l) (i := m) h3
  rw [List.getElem?_append_right (by rw [List.length_take]; omega), List.getElem?_append_left (by rw [List.length_take]; omega), List.length_take, sgm_get (by omega)]
  congr 1; omega
theorem rot_hi {l : List α} {s m e k : Nat} (h1 : s ≤ m) (h2 : m ≤ e) (h3 : e ≤ l.length) (g1 : s + (e - m) ≤ k) (g2 : k < e) : (rot l s m e)[k]? = l[k - (e - m)]? := by
  unfold rot
  have ha := sgm_length (l := l) (i := m) h3
  have hb := sgm_length (l := l) (i := s) (show m ≤ l.length by omega)
  rw [List.getElem?_append_right (by rw [List.length_take]; omega), List.getElem?_append_right (by rw [List.length_take]; omega), List.getElem?_append_left (by rw [List.length_take]; omega), List.length_take, sgm_get (by omega)]
  congr 1; omega
theorem rot_sg {l : List α} {s m e : Nat} (h1 : s ≤ m) (h2 : m ≤ e) (h3 : e ≤ l.length) : sgm (rot l s m e) s e = sgm l m e ++ sgm l s m := by
  have ha := sgm_length (l := l) (i := m) h3
  have hb := sgm_length (l := l) (i := s) (show m ≤ l.length by omega)
  unfold rot
  rw [show sgm (l.take s ++ (sgm l m e ++ (sgm l s m ++ l.drop e))) s e = ((sgm l m e ++ sgm l s m) ++ l.drop e).take (e - s) by
    unfold sgm
    rw [List.drop_append_of_le_length (by rw [List.length_take]; omega), List.drop_take, Nat.sub_self, List.take_zero, List.nil_append, List.append_assoc]]
  rw [List.take_append_of_le_length (by rw [List.length_append]; omega), List.take_of_length_le (by rw [List.length_append]; omega)]
theorem rot_perm {l : List α} {s m e : Nat} (h1 : s ≤ m) (h2 : m ≤ e) (h3 : e ≤ l.length) : PermOn l (rot l s m e) s e := by
  refine ⟨rot_length h1 h2 h3, fun k hk => rot_out h1 h2 h3 hk, ?_⟩
  rw [rot_sg h1 h2 h3, ← sgm_join h1 h2]
  exact List.perm_append_comm
theorem rot_none {l : List α} {s m e : Nat} (h1 : s ≤ m) (h2 : m ≤ e) (h3 : e ≤ l.length) (h : s = m ∨ m = e) : rot l s m e = l := by
  have : rot l s m e = l.take s ++ sgm l s e ++ l.drop e := by
    unfold rot
    rcases h with rfl | rfl
    · rw [sgm_self, List.nil_append, List.append_assoc]
    · rw [sgm_self, List.nil_append, List.append_assoc]
  rw [this, sgm_split (by omega)]
end
section
variable {α : Type} {lt : α → α → Prop}
/-- where the two sorted parts are cut: found by halving -/
structure Cut (lt : α → α → Prop) (l : List α) (a m b mid s : Nat) : Prop where
  lo : a ≤ s
  hi : s ≤ m
  elo : m ≤ mid + m - s
  ehi : mid + m - s ≤ b
  one : ∀ p q x y, a ≤ p → p < s → mid + m - s ≤ q → q < b → l[p]? = some x → l[q]? = some y → lt x y
  two : ∀ p q x y, s ≤ p → p < m → m ≤ q → q < mid + m - s → l[p]? = some x → l[q]? = some y → lt y x
/-- the halving ended at s: what holds on both sides of it -/
theorem cut_of (tr : ∀ x y z, lt x y → lt y z → lt x z) {l : List α} {a m b mid s : Nat} (hl : b ≤ l.length) (ham : a < m) (hmb : m < b) (hmid : mid = (a + b) / 2) (h1 : SrtOn lt l a m) (h2 : SrtOn lt l m b)
    (hs1 : (if m > mid then mid + m - b else a) ≤ s) (hs2 : s ≤ (if m > mid then mid else m))
    (g1 : (if m > mid then mid + m - b else a) < s → ∀ x y, l[s - 1]? = some x → l[mid + m - s]? = some y → lt x y)
    (g2 : s < (if m > mid then mid else m) → ∀ x y, l[s]? = some x → l[mid + m - 1 - s]? = some y → lt y x) : Cut lt l a m b mid s := by
  have hb1 : a ≤ mid := by omega
  have hb2 : mid < b := by omega
  by_cases hm : m > mid
  · rw [if_pos hm] at hs1 hs2 g1 g2
    refine ⟨by omega, by omega, by omega, by omega, ?_, ?_⟩
    · intro p q x y k1 k2 k3 k4 k5 k6
      have hlt : mid + m - b < s := by omega
      obtain ⟨u, hu⟩ : ∃ u, l[s - 1]? = some u := ⟨l[s - 1]'(by omega), List.getElem?_eq_getElem (by omega)⟩
      obtain ⟨v, hv⟩ : ∃ v, l[mid + m - s]? = some v := ⟨l[mid + m - s]'(by omega), List.getElem?_eq_getElem (by omega)⟩
      have k := g1 hlt u v hu hv
      have k7 : p = s - 1 ∨ lt x u := by
        rcases Nat.lt_or_ge p (s - 1) with h | h
        · exact .inr (h1 p (s - 1) x u k1 h (by omega) k5 hu)
        · exact .inl (by omega)
      have k8 : q = mid + m - s ∨ lt v y := by
        rcases Nat.lt_or_ge (mid + m - s) q with h | h
        · exact .inr (h2 (mid + m - s) q v y (by omega) h k4 hv k6)
        · exact .inl (by omega)
      have k9 : lt x v := by
        rcases k7 with rfl | k7
        · rw [hu] at k5; cases k5; exact k
        · exact tr _ _ _ k7 k
      rcases k8 with rfl | k8
      · rw [hv] at k6; cases k6; exact k9
      · exact tr _ _ _ k9 k8
    · intro p q x y k1 k2 k3 k4 k5 k6
      have hlt : s < mid := by omega
      obtain ⟨u, hu⟩ : ∃ u, l[s]? = some u := ⟨l[s]'(by omega), List.getElem?_eq_getElem (by omega)⟩
      obtain ⟨v, hv⟩ : ∃ v, l[mid + m - 1 - s]? = some v := ⟨l[mid + m - 1 - s]'(by omega), List.getElem?_eq_getElem (by omega)⟩
      have k := g2 hlt u v hu hv
      have k7 : p = s ∨ lt u x := by
        rcases Nat.lt_or_ge s p with h | h
        · exact .inr (h1 s p u x (by omega) h k2 hu k5)
        · exact .inl (by omega)
      have k8 : q = mid + m - 1 - s ∨ lt y v := by
        rcases Nat.lt_or_ge q (mid + m - 1 - s) with h | h
        · exact .inr (h2 q (mid + m - 1 - s) y v k3 h (by omega) k6 hv)
        · exact .inl (by omega)
      have k9 : lt y u := by
        rcases k8 with rfl | k8
        · rw [hv] at k6; cases k6; exact k
        · exact tr _ _ _ k8 k
      rcases k7 with rfl | k7
      · rw [hu] at k5; cases k5; exact k9
      · exact tr _ _ _ k9 k7
  · rw [if_neg hm] at hs1 hs2 g1 g2
    refine ⟨by omega, by omega, by omega, by omega, ?_, ?_⟩
    · intro p q x y k1 k2 k3 k4 k5 k6
      have hlt : a < s := by omega
      obtain ⟨u, hu⟩ : ∃ u, l[s - 1]? = some u := ⟨l[s - 1]'(by omega), List.getElem?_eq_getElem (by omega)⟩
      obtain ⟨v, hv⟩ : ∃ v, l[mid + m - s]? = some v := ⟨l[mid + m - s]'(by omega), List.getElem?_eq_getElem (by omega)⟩
      have k := g1 hlt u v hu hv
      have k7 : p = s - 1 ∨ lt x u := by
        rcases Nat.lt_or_ge p (s - 1) with h | h
        · exact .inr (h1 p (s - 1) x u k1 h (by omega) k5 hu)
        · exact .inl (by omega)
      have k8 : q = mid + m - s ∨ lt v y := by
        rcases Nat.lt_or_ge (mid + m - s) q with h | h
        · exact .inr (h2 (mid + m - s) q v y (by omega) h k4 hv k6)
        · exact .inl (by omega)
      have k9 : lt x v := by
        rcases k7 with rfl | k7
        · rw [hu] at k5; cases k5; exact k
        · exact tr _ _ _ k7 k
      rcases k8 with rfl | k8
      · rw [hv] at k6; cases k6; exact k9
      · exact tr _ _ _ k9 k8
    · intro p q x y k1 k2 k3 k4 k5 k6
      have hlt : s < m := by omega
      obtain ⟨u, hu⟩ : ∃ u, l[s]? = some u := ⟨l[s]'(by omega), List.getElem?_eq_getElem (by omega)⟩
      obtain ⟨v, hv⟩ : ∃ v, l[mid + m - 1 - s]? = some v := ⟨l[mid + m - 1 - s]'(by omega), List.getElem?_eq_getElem (by omega)⟩
      have k := g2 hlt u v hu hv
      have k7 : p = s ∨ lt u x := by
        rcases Nat.lt_or_ge s p with h | h
        · exact .inr (h1 s p u x (by omega) h k2 hu k5)
        · exact .inl (by omega)
      have k8 : q = mid + m - 1 - s ∨ lt y v := by
        rcases Nat.lt_or_ge q (mid + m - 1 - s) with h | h
        · exact .inr (h2 q (mid + m - 1 - s) y v k3 h (by omega) k6 hv)
        · exact .inl (by omega)
      have k9 : lt y u := by
        rcases k8 with rfl | k8
        · rw [hv] at k6; cases k6; exact k
        · exact tr _ _ _ k8 k
      rcases k7 with rfl | k7
      · rw [hu] at k5; cases k5; exact k9
      · exact tr _ _ _ k9 k7
/-- after the rotation: four sorted parts, the first two ahead of the last two -/
theorem Cut.rot {l : List α} {a m b mid s : Nat} (hl : b ≤ l.length) (ham : a < m) (hmb : m < b) (hmid : mid = (a + b) / 2) (h1 : SrtOn lt l a m) (h2 : SrtOn lt l m b) (h : Cut lt l a m b mid s) :
    SrtOn lt (rot l s m (mid + m - s)) a s ∧ SrtOn lt (rot l s m (mid + m - s)) s mid ∧ SrtOn lt (rot l s m (mid + m - s)) mid (mid + m - s) ∧ SrtOn lt (rot l s m (mid + m - s)) (mid + m - s) b ∧ Crs lt (rot l s m (mid + m - s)) a mid b := by
  have e1 := h.lo
  have e2 := h.hi
  have e3 := h.elo
  have e4 := h.ehi
  have hle : mid + m - s ≤ l.length := by omega
  obtain ⟨e, he⟩ : ∃ e, e = mid + m - s := ⟨_, rfl⟩
  have hone := h.one
  have htwo := h.two
  rw [← he] at e3 e4 hle hone htwo ⊢
  have ho : ∀ k, k < s ∨ e ≤ k → (Go.Proofs.YtjkoppdddaknlaaGreatDoor.rot l s m e)[k]? = l[k]? := fun k hk => rot_out e2 e3 hle hk
  have hlo : ∀ k, s ≤ k → k < mid → (Go.Proofs.YtjkoppdddaknlaaGreatDoor.rot l s m e)[k]? = l[k - s + m]? := fun k g1 g2 => rot_lo e2 e3 hle g1 (by omega)
  have hhi : ∀ k, mid ≤ k → k < e → (Go.Proofs.YtjkoppdddaknlaaGreatDoor.rot l s m e)[k]? = l[k - (e - m)]? := fun k g1 g2 => rot_hi e2 e3 hle (by omega) g2
  have hlen := rot_length e2 e3 hle
  refine ⟨(h1.sub (Nat.le_refl _) e2).eq (fun k _ g2 => ho k (.inl g2)), ?_, ?_, (h2.sub e3 (Nat.le_refl _)).eq (fun k g1 _ => ho k (.inr g1)), ?_⟩
  · intro p q x y g1 g2 g3 g4 g5
    rw [hlo p g1 (by omega)] at g4
    rw [hlo q (by omega) g3] at g5
    exact h2 _ _ x y (by omega) (by omega) (by omega) g4 g5
  · intro p q x y g1 g2 g3 g4 g5
    rw [hhi p g1 (by omega)] at g4
    rw [hhi q (by omega) g3] at g5
    exact h1 _ _ x y (by omega) (by omega) (by omega) g4 g5
  · intro x hx y hy
    obtain ⟨p, g1, g2, g3⟩ := (sgm_mem (by omega)).1 hx
    obtain ⟨q, k1, k2, k3⟩ := (sgm_mem (by omega)).1 hy
    rcases Nat.lt_or_ge p s with hp | hp
    · rw [ho p (.inl hp)] at g3
      rcases Nat.lt_or_ge q e with hq | hq
      · rw [hhi q k1 hq] at k3
        exact h1 _ _ x y g1 (by omega) (by omega) g3 k3
      · rw [ho q (.inr hq)] at k3
        exact hone p q x y g1 hp hq k2 g3 k3
    · rw [hlo p hp g2] at g3
      rcases Nat.lt_or_ge q e with hq | hq
      · rw [hhi q k1 hq] at k3
        exact htwo _ _ y x (by omega) (by omega) (by omega) (by omega) k3 g3
      · rw [ho q (.inr hq)] at k3
        exact h2 _ _ x y (by omega) (by omega) k2 g3 k3
/-- two halves made sorted are the whole made sorted -/
theorem merge_done {l l1 l2 l3 : List α} {a mid b : Nat} (hl : b ≤ l.length) (h1 : a ≤ mid) (h2 : mid ≤ b) (hp1 : PermOn l l1 a b) (hc : Crs lt l1 a mid b) (hp2 : PermOn l1 l2 a mid) (hs2 : SrtOn lt l2 a mid) (hp3 : PermOn l2 l3 mid b) (hs3 : SrtOn lt l3 mid b) :
    PermOn l l3 a b ∧ SrtOn lt l3 a b := by
  have n1 := hp1.len
  have n2 := hp2.len
  have n3 := hp3.len
  refine ⟨hp1.trans ((hp2.within (by omega) (Nat.le_refl _) h1 h2).trans (hp3.within (by omega) h1 h2 (Nat.le_refl _))), ?_⟩
  refine SrtOn.join (by omega) h1 h2 (hs2.eq fun k _ hk => hp3.out k (.inl hk)) hs3 (hc.perm ?_ ?_)
  · rw [sgm_eq (l := l2) (l' := l3) (i := a) (j := mid) fun k _ hk => hp3.out k (.inl hk)]; exact hp2.perm
  · rw [← sgm_eq (l := l1) (l' := l2) (i := mid) (j := b) fun k hk _ => hp2.out k (.inr hk)]; exact hp3.perm
end
end Go.Proofs.YtjkoppdddaknlaaGreatDoor
