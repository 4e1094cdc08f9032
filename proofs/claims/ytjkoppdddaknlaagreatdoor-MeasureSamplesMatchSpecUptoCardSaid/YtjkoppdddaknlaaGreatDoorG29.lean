import Derived.Test.YtjkoppdddaknlaaGreatDoorG16
import Derived.Test.YtjkoppdddaknlaaGreatDoorG4
/- 'more' on lists: a histogram with n values more in a bucket. No program in sight. -/
namespace Go.Proofs.YtjkoppdddaknlaaGreatDoor
open Go Go.RowKit Go.Proofs Go.Maps

/-- one step of 'more' -/
def stepM (k n : Int) (st : Bool × List (Int × Int)) (c : Int × Int) : Bool × List (Int × Int) :=
  if st.1 = false ∧ k ≤ c.1 then (true, st.2 ++ (if c.1 = k then [(c.1, c.2 + n)] else [(k, n), c])) else (st.1, st.2 ++ [c])
def moreSt (k n : Int) (cs : List (Int × Int)) : Bool × List (Int × Int) := cs.foldl (stepM k n) (n == 0, [])
def moreL (k n : Int) (cs : List (Int × Int)) : List (Int × Int) := if (moreSt k n cs).1 then (moreSt k n cs).2 else (moreSt k n cs).2 ++ [(k, n)]
theorem moreSt_take (k n : Int) (cs : List (Int × Int)) (i : Nat) (c : Int × Int) (h : cs[i]? = some c) : moreSt k n (cs.take (i + 1)) = stepM k n (moreSt k n (cs.take i)) c := by
  unfold moreSt
  rw [List.take_add_one, h]; simp
theorem moreSt_length (k n : Int) (cs : List (Int × Int)) : (moreSt k n cs).2.length ≤ cs.length + 1 ∧ ((moreSt k n cs).1 = false → (moreSt k n cs).2.length = cs.length) := by
  have key : ∀ (cs : List (Int × Int)) (st : Bool × List (Int × Int)), ((cs.foldl (stepM k n) st).2.length ≤ st.2.length + cs.length + 1 ∧ (st.1 = true → (cs.foldl (stepM k n) st).2.length = st.2.length + cs.length)) ∧ ((cs.foldl (stepM k n) st).1 = false → (cs.foldl (stepM k n) st).2.length = st.2.length + cs.length) := by
    intro cs
    induction cs with
    | nil => intro st; simp
    | cons c cs ih =>
      intro st
      simp only [List.foldl_cons, List.length_cons]
      obtain ⟨⟨h1, h2⟩, h3⟩ := ih (stepM k n st c)
      by_cases hc : st.1 = false ∧ k ≤ c.1
      · have e1 : (stepM k n st c).1 = true := by simp [stepM, hc]
        have e2 : (stepM k n st c).2.length ≤ st.2.length + 2 := by unfold stepM; rw [if_pos hc]; simp only [List.length_append]; split <;> simp
        have h2' := h2 e1
        refine ⟨⟨by omega, fun h => by rw [hc.1] at h; cases h⟩, fun h => ?_⟩
        exfalso
        have hk : ∀ (l : List (Int × Int)) (s : Bool × List (Int × Int)), s.1 = true → (l.foldl (stepM k n) s).1 = true := by
          intro l
          induction l with
          | nil => intro s h; exact h
          | cons d l ih => intro s h; simp only [List.foldl_cons]; exact ih _ (by unfold stepM; rw [if_neg (by simp [h])]; exact h)
        rw [hk cs _ e1] at h; cases h
      · have e1 : (stepM k n st c) = (st.1, st.2 ++ [c]) := by unfold stepM; rw [if_neg hc]
        rw [e1] at h1 h2 h3 ⊢
        simp only [List.length_append, List.length_cons, List.length_nil] at h1 h2 h3
        exact ⟨⟨by omega, fun h => by have := h2 h; omega⟩, fun h => by have := h3 h; omega⟩
  have := key cs (n == 0, [])
  unfold moreSt
  simp only [List.length_nil, Nat.zero_add] at this
  exact ⟨this.1.1, this.2⟩
/-- 'more', read off a list -/
def moreR (k n : Int) : List (Int × Int) → List (Int × Int)
  | [] => [(k, n)]
  | c :: r => if k ≤ c.1 then (if c.1 = k then (c.1, c.2 + n) :: r else (k, n) :: c :: r) else c :: moreR k n r
theorem foldl_done (k n : Int) : ∀ (cs : List (Int × Int)) (l : List (Int × Int)), cs.foldl (stepM k n) (true, l) = (true, l ++ cs)
  | [], l => by simp
  | c :: cs, l => by
    have : stepM k n (true, l) c = (true, l ++ [c]) := by simp [stepM]
    rw [List.foldl_cons, this, foldl_done k n cs]; simp
/-- the end of 'more' -/
def finM (k n : Int) (st : Bool × List (Int × Int)) : List (Int × Int) := if st.1 then st.2 else st.2 ++ [(k, n)]
theorem foldl_open (k n : Int) : ∀ (cs : List (Int × Int)) (l : List (Int × Int)), finM k n (cs.foldl (stepM k n) (false, l)) = l ++ moreR k n cs
  | [], l => by simp [moreR, finM]
  | c :: cs, l => by
    rw [List.foldl_cons]
    by_cases h : k ≤ c.1
    · have e : stepM k n (false, l) c = (true, l ++ (if c.1 = k then [(c.1, c.2 + n)] else [(k, n), c])) := by simp [stepM, h]
      rw [e, foldl_done]
      simp only [finM, if_true, moreR, if_pos h]
      split <;> simp
    · have e : stepM k n (false, l) c = (false, l ++ [c]) := by simp [stepM, h]
      rw [e, foldl_open k n cs (l ++ [c])]
      simp [moreR, h]
theorem moreL_eq (k n : Int) (cs : List (Int × Int)) : moreL k n cs = if n = 0 then cs else moreR k n cs := by
  show finM k n (moreSt k n cs) = _
  unfold moreSt
  by_cases h : n = 0
  · subst h; simp [foldl_done, finM]
  · have e : (n == 0) = false := by simpa using h
    rw [e, if_neg h, foldl_open k n cs []]
    simp
theorem moreR_mem (k n : Int) : ∀ (cs : List (Int × Int)), cs.Pairwise (fun a b => a.1 < b.1) → ∀ x m, (x, m) ∈ moreR k n cs ↔ ((x ≠ k ∧ (x, m) ∈ cs) ∨ (x = k ∧ ((∃ l, (k, l) ∈ cs ∧ m = l + n) ∨ ((∀ l, (k, l) ∉ cs) ∧ m = n))))
  | [], _, x, m => by simp [moreR]
  | (y, l) :: cs, h, x, m => by
    rw [List.pairwise_cons] at h
    have ih := moreR_mem k n cs h.2 x m
    unfold moreR
    by_cases hk : k ≤ y
    · rw [if_pos hk]
      have hnot : ∀ l', (k, l') ∉ cs := fun l' hl => by have := h.1 _ hl; simp only at this; omega
      by_cases hy : y = k
      · subst hy
        rw [if_pos rfl]
        simp only [List.mem_cons, Prod.mk.injEq]
        constructor
        · rintro (⟨rfl, rfl⟩ | hx)
          · exact .inr ⟨rfl, .inl ⟨l, by simp, rfl⟩⟩
          · have := h.1 _ hx; simp only at this
            exact .inl ⟨by omega, .inr hx⟩
        · rintro (⟨h1, h2 | h2⟩ | ⟨rfl, ⟨l', h3 | h3, rfl⟩ | ⟨h3, _⟩⟩)
          · exact absurd h2.1 h1
          · exact .inr h2
          · exact .inl ⟨rfl, by rw [h3.2]⟩
          · exact absurd h3 (hnot l')
          · exact absurd (by simp) (h3 l)
      · rw [if_neg hy]
        simp only [List.mem_cons, Prod.mk.injEq]
        constructor
        · rintro (⟨rfl, rfl⟩ | ⟨rfl, rfl⟩ | hx)
          · exact .inr ⟨rfl, .inr ⟨fun l' hl => by rcases hl with ⟨h1, _⟩ | h1; exact hy h1.symm; exact hnot l' h1, rfl⟩⟩
          · exact .inl ⟨hy, .inl ⟨rfl, rfl⟩⟩
          · have := h.1 _ hx; simp only at this
            exact .inl ⟨by omega, .inr hx⟩
        · rintro (⟨h1, h2 | h2⟩ | ⟨rfl, ⟨l', h3 | h3, rfl⟩ | ⟨h3, rfl⟩⟩)
          · exact .inr (.inl h2)
          · exact .inr (.inr h2)
          · exact absurd h3.1.symm hy
          · exact absurd h3 (hnot l')
          · exact .inl ⟨rfl, rfl⟩
    · rw [if_neg hk]
      simp only [List.mem_cons, Prod.mk.injEq]
      rw [ih]
      constructor
      · rintro (⟨rfl, rfl⟩ | ⟨h1, h2⟩ | ⟨rfl, ⟨l', h3, rfl⟩ | ⟨h3, rfl⟩⟩)
        · exact .inl ⟨by omega, .inl ⟨rfl, rfl⟩⟩
        · exact .inl ⟨h1, .inr h2⟩
        · exact .inr ⟨rfl, .inl ⟨l', .inr h3, rfl⟩⟩
        · exact .inr ⟨rfl, .inr ⟨fun l' hl => by rcases hl with ⟨h1, _⟩ | h1; omega; exact h3 l' h1, rfl⟩⟩
      · rintro (⟨h1, h2 | h2⟩ | ⟨rfl, ⟨l', h3 | h3, rfl⟩ | ⟨h3, rfl⟩⟩)
        · exact .inl h2
        · exact .inr (.inl ⟨h1, h2⟩)
        · omega
        · exact .inr (.inr ⟨rfl, .inl ⟨l', h3, rfl⟩⟩)
        · exact .inr (.inr ⟨rfl, .inr ⟨fun l' hl => h3 l' (.inr hl), rfl⟩⟩)
theorem moreR_fst (k n : Int) (cs : List (Int × Int)) (x m : Int) (h : (x, m) ∈ moreR k n cs) : x = k ∨ ∃ m', (x, m') ∈ cs := by
  induction cs with
  | nil => simp [moreR] at h; exact .inl h.1
  | cons c cs ih =>
    obtain ⟨y, l⟩ := c
    unfold moreR at h
    split at h
    · split at h
      · simp only [List.mem_cons, Prod.mk.injEq] at h
        rcases h with ⟨rfl, _⟩ | h
        · exact .inr ⟨l, by simp⟩
        · exact .inr ⟨m, by simp [h]⟩
      · simp only [List.mem_cons, Prod.mk.injEq] at h
        rcases h with ⟨rfl, _⟩ | ⟨rfl, _⟩ | h
        · exact .inl rfl
        · exact .inr ⟨l, by simp⟩
        · exact .inr ⟨m, by simp [h]⟩
    · simp only [List.mem_cons, Prod.mk.injEq] at h
      rcases h with ⟨rfl, _⟩ | h
      · exact .inr ⟨l, by simp⟩
      · rcases ih h with h | ⟨m', h⟩
        · exact .inl h
        · exact .inr ⟨m', by simp [h]⟩
theorem moreR_sorted (k n : Int) : ∀ (cs : List (Int × Int)), cs.Pairwise (fun a b => a.1 < b.1) → (moreR k n cs).Pairwise (fun a b => a.1 < b.1)
  | [], _ => by simp [moreR]
  | (y, l) :: cs, h => by
    rw [List.pairwise_cons] at h
    unfold moreR
    by_cases hk : k ≤ y
    · rw [if_pos hk]
      by_cases hy : y = k
      · rw [if_pos hy, List.pairwise_cons]
        exact h
      · rw [if_neg hy, List.pairwise_cons, List.pairwise_cons]
        refine ⟨fun c hc => ?_, h⟩
        simp only [List.mem_cons] at hc
        rcases hc with rfl | hc
        · simp only; omega
        · have := h.1 c hc; simp only at this ⊢; omega
    · rw [if_neg hk, List.pairwise_cons]
      refine ⟨fun c hc => ?_, moreR_sorted k n cs h.2⟩
      obtain ⟨x, m⟩ := c
      rcases moreR_fst k n cs x m hc with rfl | ⟨m', h'⟩
      · simp only; omega
      · exact h.1 (x, m') h'
theorem more_hist {f : Int → Int} {cs : List (Int × Int)} (h : IsHist f cs) (hf : ∀ x, 0 ≤ f x) (k n : Int) (hn : 0 ≤ n) : IsHist (upd f k (f k + n)) (moreL k n cs) := by
  rw [moreL_eq]
  by_cases h0 : n = 0
  · subst h0
    rw [if_pos rfl, Int.add_zero]
    have : upd f k (f k) = f := by funext x; unfold upd; split <;> simp [*]
    rw [this]; exact h
  · rw [if_neg h0]
    refine ⟨moreR_sorted k n cs h.1, fun x m => ?_⟩
    rw [moreR_mem k n cs h.1 x m]
    unfold upd
    by_cases hx : x = k
    · subst hx
      simp only [ne_eq, not_true_eq_false, false_and, true_and, false_or, if_true]
      constructor
      · rintro (⟨l, h1, rfl⟩ | ⟨h1, rfl⟩)
        · have := (h.2 x l).1 h1; omega
        · have : ¬ 0 < f x := fun hp => h1 (f x) ((h.2 x (f x)).2 ⟨rfl, hp⟩)
          have := hf x; omega
      · rintro ⟨rfl, hp⟩
        by_cases hp' : 0 < f x
        · exact .inl ⟨f x, (h.2 x (f x)).2 ⟨rfl, hp'⟩, rfl⟩
        · have := hf x
          exact .inr ⟨fun l hl => by have := (h.2 x l).1 hl; omega, by omega⟩
    · simp only [ne_eq, hx, not_false_eq_true, true_and, false_and, or_false, if_false]
      exact h.2 x m
theorem hist_len {f : Int → Int} {cs : List (Int × Int)} (h : IsHist f cs) (m : Int) (hf : ∀ x, f x ≠ 0 → 0 ≤ x ∧ x ≤ m) : (cs.length : Int) ≤ m + 1 ∨ cs.length = 0 := by
  have key : ∀ (cs : List (Int × Int)) (lo : Int), cs.Pairwise (fun a b => a.1 < b.1) → (∀ c ∈ cs, lo ≤ c.1 ∧ c.1 ≤ m) → (cs.length : Int) ≤ m + 1 - lo ∨ cs.length = 0 := by
    intro cs
    induction cs with
    | nil => intro lo _ _; right; rfl
    | cons c cs ih =>
      intro lo hp hc
      rw [List.pairwise_cons] at hp
      have h0 := hc c (by simp)
      left
      rcases ih (c.1 + 1) hp.2 (fun d hd => ⟨by have := hp.1 d hd; omega, (hc d (by simp [hd])).2⟩) with h1 | h1
      · simp only [List.length_cons]; omega
      · simp only [List.length_cons]; omega
  have := key cs 0 h.1 (fun c hc => by
    obtain ⟨x, n⟩ := c
    have := (h.2 x n).1 hc
    exact hf x (by omega))
  omega
end Go.Proofs.YtjkoppdddaknlaaGreatDoor

/- append of one element to a row of the call's own whose slice lies in a field of a box: what holds behind it. -/
namespace Go.Proofs.YtjkoppdddaknlaaGreatDoor
open Go Go.RowKit Go.Proofs

theorem app_after {wr w2 : World} {v v' : Value} {base H n k : Nat} {t e : TypeId} {xs ys : List Value} {cs : Array Value} {o : Obj} (hown : wr.ownsRow base e k v n xs) (hbox : wr.heap[H]? = some (.cells cs t (0, 0))) (hH : H < base)
    (hown' : w2.ownsRow base e k v' (n + 1) ys) (hgrow : (wr.alloc o).grownBy w2 v.ownBlock) :
    ∃ g cap, v' = .slice (some ⟨g, 0, none⟩) (n + 1) cap ∧ base ≤ g ∧ g ≠ H ∧ w2.heap[H]? = some (.cells cs t (0, 0)) ∧ Fr (fun i => some i = v.ownBlock) wr w2 ∧ wr.heap.size + 1 ≤ w2.heap.size := by
  obtain ⟨g, cap, rfl, hgb, hgl, _, _⟩ := ownsRow_some hown' (by omega)
  have hfg := Fr.of_grown hgrow
  have hne : ¬ some H = v.ownBlock := fun hv => by have := (ownsRow_block hown hv).1; omega
  have hHs := heap_lt hbox
  refine ⟨g, cap, rfl, hgb, by omega, ?_, ?_, by have := hgrow.size; simpa using this⟩
  · rw [hfg.block H (by simp; omega) hne]
    exact (Below.heap_alloc _ _ _ hHs).trans hbox
  · exact Fr.trans ((Fr.refl _ wr).alloc o) hfg (fun i _ hi => hi)
theorem box_store {w : World} {H : Nat} {cs : Array Value} {t : TypeId} {fz : Nat × Nat} (h : w.heap[H]? = some (.cells cs t fz)) (i : Nat) (u : Value) : (w.setCell ⟨H, i, none⟩ u).heap[H]? = some (.cells (cs.setIfInBounds i u) t fz) := by
  simp [World.setCell, Array.getElem?_modify, h]
theorem row_store {w : World} {base H n k : Nat} {e : TypeId} {v : Value} {xs : List Value} (h : w.ownsRow base e k v n xs) (hH : H < base) (i : Nat) (u : Value) : (w.setCell ⟨H, i, none⟩ u).ownsRow base e k v n xs :=
  ownsRow_fr h ((Fr.refl (fun j => j = H) w).setCell (p := ⟨H, i, none⟩) (fun _ => rfl) u) (fun j hj => by have := (ownsRow_block h hj).1; omega)
end Go.Proofs.YtjkoppdddaknlaaGreatDoor
