/- The reference's 'more': a histogram with n values more in a bucket. -/
import Derived.Test.YtgmbgclhljobaaaDoorChk
import Derived.Test.YtgmbgclhljobaaaDoorApp
namespace Go.Proofs.YtgmbgclhljobaaaDoor
open Go Go.RowKit Go.Proofs Go.Maps

/-- one step of 'more' -/
def stepM (k n : Int) (st : Bool × List (Int × Int)) (c : Int × Int) : Bool × List (Int × Int) :=
  if st.1 = false ∧ k ≤ c.1 then (true, st.2 ++ (if c.1 = k then [(c.1, c.2 + n)] else [(k, n), c])) else (st.1, st.2 ++ [c])
def moreSt (k n : Int) (cs : List (Int × Int)) : Bool × List (Int × Int) := cs.foldl (stepM k n) (n == 0, [])
def moreL (k n : Int) (cs : List (Int × Int)) : List (Int × Int) := if (moreSt k n cs).1 then (moreSt k n cs).2 else (moreSt k n cs).2 ++ [(k, n)]
theorem moreSt_take (k n : Int) (cs : List (Int × Int)) (i : Nat) (c : Int × Int) (h : cs[i]? = some c) : moreSt k n (cs.take (i + 1)) = stepM k n (moreSt k n (cs.take i)) c := by
  unfold moreSt
  rw [List.take_add_one, h]; simp
theorem moreSt_length (k n : Int) (cs : List (Int × Int)) : (moreSt k n cs).2.length ≤ cs.length + 1 ∧ ((moreSt k n cs).1 = false → (moreSt k n cs).2.length = cs.length) := by
  have key : ∀ (cs : List (Int × Int)) (st : Bool × List (Int × Int)), ((cs.foldl (stepM k n) st).2.length ≤ st.2.length + cs.length + 1 ∧ (st.1 = true → (cs.foldl (stepM k n) st).2.length = st.2.length + cs.length)) ∧ ((cs.foldl (stepM k n) st).1 = false → (cs.foldl (stepM k n) st).2.length = st.2.length + cs.length) := by
    intro cs
    induction cs with
    | nil => intro st; simp
    | cons c cs ih =>
      intro st
      simp only [List.foldl_cons, List.length_cons]
      obtain ⟨⟨h1, h2⟩, h3⟩ := ih (stepM k n st c)
      by_cases hc : st.1 = false ∧ k ≤ c.1
      · have e1 : (stepM k n st c).1 = true := by simp [stepM, hc]
        have e2 : (stepM k n st c).2.length ≤ st.2.length + 2 := by unfold stepM; rw [if_pos hc]; simp only [List.length_append]; split <;> simp
        have h2' := h2 e1
        refine ⟨⟨by omega, fun h => by rw [hc.1] at h; cases h⟩, fun h => ?_⟩
        exfalso
        have hk : ∀ (l : List (Int × Int)) (s : Bool × List (Int × Int)), s.1 = true → (l.foldl (stepM k n) s).1 = true := by
          intro l
          induction l with
          | nil => intro s h; exact h
          | cons d l ih => intro s h; simp only [List.foldl_cons]; exact ih _ (by unfold stepM; rw [if_neg (by simp [h])]; exact h)
        rw [hk cs _ e1] at h; cases h
      · have e1 : (stepM k n st c) = (st.1, st.2 ++ [c]) := by unfold stepM; rw [if_neg hc]
        rw [e1] at h1 h2 h3 ⊢
        simp only [List.length_append, List.length_cons, List.length_nil] at h1 h2 h3
        exact ⟨⟨by omega, fun h => by have := h2 h; omega⟩, fun h => by have := h3 h; omega⟩
  have := key cs (n == 0, [])
  unfold moreSt
  simp only [List.length_nil, Nat.zero_add] at this
  exact ⟨this.1.1, this.2⟩
/-- 'more', read off a list -/
def moreR (k n : Int) : List (Int × Int) → List (Int × Int)
  | [] => [(k, n)]
  | c :: r => if k ≤ c.1 then (if c.1 = k then (c.1, c.2 + n) :: r else (k, n) :: c :: r) else c :: moreR k n r
theorem foldl_done (k n : Int) : ∀ (cs : List (Int × Int)) (l : List (Int × Int)), cs.foldl (stepM k n) (true, l) = (true, l ++ cs)
  | [], l => by simp
  | c :: cs, l => by
    have : stepM k n (true, l) c = (true, l ++ [c]) := by simp [stepM]
    rw [List.foldl_cons, this, foldl_done k n cs]; simp
/-- the end of 'more' -/
def finM (k n : Int) (st : Bool × List (Int × Int)) : List (Int × Int) := if st.1 then st.2 else st.2 ++ [(k, n)]
theorem foldl_open (k n : Int) : ∀ (cs : List (Int × Int)) (l : List (Int × Int)), finM k n (cs.foldl (stepM k n) (false, l)) = l ++ moreR k n cs
  | [], l => by simp [moreR, finM]
  | c :: cs, l => by
    rw [List.foldl_cons]
    by_cases h : k ≤ c.1
    · have e : stepM k n (false, l) c = (true, l ++ (if c.1 = k then [(c.1, c.2 + n)] else [(k, n), c])) := by simp [stepM, h]
      rw [e, foldl_done]
      simp only [finM, if_true, moreR, if_pos h]
      split <;> simp
    · have e : stepM k n (false, l) c = (false, l ++ [c]) := by simp [stepM, h]
      rw [e, foldl_open k n cs (l ++ [c])]
      simp [moreR, h]
theorem moreL_eq (k n : Int) (cs : List (Int × Int)) : moreL k n cs = if n = 0 then cs else moreR k n cs := by
  show finM k n (moreSt k n cs) = _
  unfold moreSt
  by_cases h : n = 0
  · subst h; simp [foldl_done, finM]
  · have e : (n == 0) = false := by simpa using h
    rw [e, if_neg h, foldl_open k n cs []]
    simp
theorem moreR_mem (k n : Int) : ∀ (cs : List (Int × Int)), cs.Pairwise (fun a b => a.1 < b.1) → ∀ x m, (x, m) ∈ moreR k n cs ↔ ((x ≠ k ∧ (x, m) ∈ cs) ∨ (x = k ∧ ((∃ l, (k, l) ∈ cs ∧ m = l + n) ∨ ((∀ l, (k, l) ∉ cs) ∧ m = n))))
  | [], _, x, m => by simp [moreR]
  | (y, l) :: cs, h, x, m => by
    rw [List.pairwise_cons] at h
    have ih := moreR_mem k n cs h.2 x m
    unfold moreR
    by_cases hk : k ≤ y
    · rw [if_pos hk]
      have hnot : ∀ l', (k, l') ∉ cs := fun l' hl => by have := h.1 _ hl; simp only at this; omega
      by_cases hy : y = k
      · subst hy
        rw [if_pos rfl]
        simp only [List.mem_cons, Prod.mk.injEq]
        constructor
        · rintro (⟨rfl, rfl⟩ | hx)
          · exact .inr ⟨rfl, .inl ⟨l, by simp, rfl⟩⟩
          · have := h.1 _ hx; simp only at this
            exact .inl ⟨by omega, .inr hx⟩
        · rintro (⟨h1, h2 | h2⟩ | ⟨rfl, ⟨l', h3 | h3, rfl⟩ | ⟨h3, _⟩⟩)
          · exact absurd h2.1 h1
          · exact .inr h2
          · exact .inl ⟨rfl, by rw [h3.2]⟩
          · exact absurd h3 (hnot l')
          · exact absurd (by simp) (h3 l)
      · rw [if_neg hy]
        simp only [List.mem_cons, Prod.mk.injEq]
        constructor
        · rintro (⟨rfl, rfl⟩ | ⟨rfl, rfl⟩ | hx)
          · exact .inr ⟨rfl, .inr ⟨fun l' hl => by rcases hl with ⟨h1, _⟩ | h1; exact hy h1.symm; exact hnot l' h1, rfl⟩⟩
          · exact .inl ⟨hy, .inl ⟨rfl, rfl⟩⟩
          · have := h.1 _ hx; simp only at this
            exact .inl ⟨by omega, .inr hx⟩
        · rintro (⟨h1, h2 | h2⟩ | ⟨rfl, ⟨l', h3 | h3, rfl⟩ | ⟨h3, rfl⟩⟩)
          · exact .inr (.inl h2)
          · exact .inr (.inr h2)
          · exact absurd h3.1.symm hy
          · exact absurd h3 (hnot l')
          · exact .inl ⟨rfl, rfl⟩
    · rw [if_neg hk]
      simp only [List.mem_cons, Prod.mk.injEq]
      rw [ih]
      constructor
      · rintro (⟨rfl, rfl⟩ | ⟨h1, h2⟩ | ⟨rfl, ⟨l', h3, rfl⟩ | ⟨h3, rfl⟩⟩)
        · exact .inl ⟨by omega, .inl ⟨rfl, rfl⟩⟩
        · exact .inl ⟨h1, .inr h2⟩
        · exact .inr ⟨rfl, .inl ⟨l', .inr h3, rfl⟩⟩
        · exact .inr ⟨rfl, .inr ⟨fun l' hl => by rcases hl with ⟨h1, _⟩ | h1; omega; exact h3 l' h1, rfl⟩⟩
      · rintro (⟨h1, h2 | h2⟩ | ⟨rfl, ⟨l', h3 | h3, rfl⟩ | ⟨h3, rfl⟩⟩)
        · exact .inl h2
        · exact .inr (.inl ⟨h1, h2⟩)
        · omega
        · exact .inr (.inr ⟨rfl, .inl ⟨l', h3, rfl⟩⟩)
        · exact .inr (.inr ⟨rfl, .inr ⟨fun l' hl => h3 l' (.inr hl), rfl⟩⟩)
theorem moreR_fst (k n : Int) (cs : List (Int × Int)) (x m : Int) (h : (x, m) ∈ moreR k n cs) : x = k ∨ ∃ m', (x, m') ∈ cs := by
  induction cs with
  | nil => simp [moreR] at h; exact .inl h.1
  | cons c cs ih =>
    obtain ⟨y, l⟩ := c
    unfold moreR at h
    split at h
    · split at h
      · simp only [List.mem_cons, Prod.mk.injEq] at h
        rcases h with ⟨rfl, _⟩ | h
        · exact .inr ⟨l, by simp⟩
        · exact .inr ⟨m, by simp [h]⟩
      · simp only [List.mem_cons, Prod.mk.injEq] at h
        rcases h with ⟨rfl, _⟩ | ⟨rfl, _⟩ | h
        · exact .inl rfl
        · exact .inr ⟨l, by simp⟩
        · exact .inr ⟨m, by simp [h]⟩
    · simp only [List.mem_cons, Prod.mk.injEq] at h
      rcases h with ⟨rfl, _⟩ | h
      · exact .inr ⟨l, by simp⟩
      · rcases ih h with h | ⟨m', h⟩
        · exact .inl h
        · exact .inr ⟨m', by simp [h]⟩
theorem moreR_sorted (k n : Int) : ∀ (cs : List (Int × Int)), cs.Pairwise (fun a b => a.1 < b.1) → (moreR k n cs).Pairwise (fun a b => a.1 < b.1)
  | [], _ => by simp [moreR]
  | (y, l) :: cs, h => by
    rw [List.pairwise_cons] at h
    unfold moreR
    by_cases hk : k ≤ y
    · rw [if_pos hk]
      by_cases hy : y = k
      · rw [if_pos hy, List.pairwise_cons]
        exact h
      · rw [if_neg hy, List.pairwise_cons, List.pairwise_cons]
        refine ⟨fun c hc => ?_, h⟩
        simp only [List.mem_cons] at hc
        rcases hc with rfl | hc
        · simp only; omega
        · have := h.1 c hc; simp only at this ⊢; omega
    · rw [if_neg hk, List.pairwise_cons]
      refine ⟨fun c hc => ?_, moreR_sorted k n cs h.2⟩
      obtain ⟨x, m⟩ := c
      rcases moreR_fst k n cs x m hc with rfl | ⟨m', h'⟩
      · simp only; omega
      · exact h.1 (x, m') h'
theorem more_hist {f : Int → Int} {cs : List (Int × Int)} (h : IsHist f cs) (hf : ∀ x, 0 ≤ f x) (k n : Int) (hn : 0 ≤ n) : IsHist (upd f k (f k + n)) (moreL k n cs) := by
  rw [moreL_eq]
  by_cases h0 : n = 0
  · subst h0
    rw [if_pos rfl, Int.add_zero]
    have : upd f k (f k) = f := by funext x; unfold upd; split <;> simp [*]
    rw [this]; exact h
  · rw [if_neg h0]
    refine ⟨moreR_sorted k n cs h.1, fun x m => ?_⟩
    rw [moreR_mem k n cs h.1 x m]
    unfold upd
    by_cases hx : x = k
    · subst hx
      simp only [ne_eq, not_true_eq_false, false_and, true_and, false_or, if_true]
      constructor
      · rintro (⟨l, h1, rfl⟩ | ⟨h1, rfl⟩)
        · have := (h.2 x l).1 h1; omega
        · have : ¬ 0 < f x := fun hp => h1 (f x) ((h.2 x (f x)).2 ⟨rfl, hp⟩)
          have := hf x; omega
      · rintro ⟨rfl, hp⟩
        by_cases hp' : 0 < f x
        · exact .inl ⟨f x, (h.2 x (f x)).2 ⟨rfl, hp'⟩, rfl⟩
        · have := hf x
          exact .inr ⟨fun l hl => by have := (h.2 x l).1 hl; omega, by omega⟩
    · simp only [ne_eq, hx, not_false_eq_true, true_and, false_and, or_false, if_false]
      exact h.2 x m
theorem upd_nonneg {f : Int → Int} (hf : ∀ x, 0 ≤ f x) (k c : Int) (hc : 0 ≤ c) : ∀ x, 0 ≤ upd f k c x := by
  intro x; unfold upd; split
  · exact hc
  · exact hf x
/-- what the loop of 'more' keeps -/
def MoreRel (w wr : World) (b k n : Int) (A : Option Addr) (c : Nat) (cs : List (Int × Int)) (i : Nat) : Prop :=
  i ≤ cs.length ∧ Below w.heap.size w wr ∧ w.heap.size + 1 + 1 + 1 ≤ wr.heap.size ∧
    wr.heap[w.heap.size]? = some (.cells #[.int .i64 b, .slice A cs.length c] 24 (0, 0)) ∧
    wr.heap[w.heap.size + 1]? = some (.cells #[.int .i64 0, .slice none 0 0] 24 (0, 0)) ∧
    ∃ v, wr.heap[w.heap.size + 1 + 1]? = some (.cells #[.int .i64 b, v] 24 (0, 0)) ∧
      wr.ownsRow (w.heap.size + 1 + 1 + 1) 63 2 v (moreSt k n (cs.take i)).2.length (cells2 (moreSt k n (cs.take i)).2)

/-- one more element appended, then stored back into the field -/
theorem MoreRel.next' {w wr w2 : World} {b k n : Int} {A : Option Addr} {c : Nat} {cs : List (Int × Int)} {i : Nat} {v : Value} {g cap : Nat} {l : List (Int × Int)} {x : Int × Int}
    (hrel : MoreRel w wr b k n A c cs i) (hi : i + 1 ≤ cs.length) (hst : (moreSt k n (cs.take (i + 1))).2 = l ++ [x])
    (hfr : Fr (fun j => j = w.heap.size + 1 + 1 ∨ w.heap.size + 1 + 1 + 1 ≤ j) wr w2) (hbx : w2.heap[w.heap.size + 1 + 1]? = some (.cells #[.int .i64 b, v] 24 (0, 0)))
    (hown : w2.ownsRow (w.heap.size + 1 + 1 + 1) 63 2 (.slice (some ⟨g, 0, none⟩) (l.length + 1) cap) (l.length + 1) (cells2 l ++ [.int .i64 x.1, .int .i64 x.2])) :
    MoreRel w (w2.setCell ⟨w.heap.size + 1 + 1, 1, none⟩ (.slice (some ⟨g, 0, none⟩) (l.length + 1) cap)) b k n A c cs (i + 1) := by
  obtain ⟨_, h2, h3, h4, h5, _⟩ := hrel
  have hf : Fr (fun j => j = w.heap.size + 1 + 1 ∨ w.heap.size + 1 + 1 + 1 ≤ j) wr (w2.setCell ⟨w.heap.size + 1 + 1, 1, none⟩ (.slice (some ⟨g, 0, none⟩) (l.length + 1) cap)) := hfr.setCell (fun _ => .inl rfl) _
  refine ⟨hi, h2.trans (hf.below (by omega) (fun j hj => by omega)), Nat.le_trans h3 hf.size, (hf.block _ (by omega) (by omega)).trans h4, (hf.block _ (by omega) (by omega)).trans h5, _, box_store hbx 1 _, ?_⟩
  rw [hst]
  have e : cells2 (l ++ [x]) = cells2 l ++ [.int .i64 x.1, .int .i64 x.2] := by simp [cells2]
  rw [e, List.length_append]
  exact row_store hown (by omega) 1 _

theorem MoreRel.next {w wr w2 : World} {b k n : Int} {A : Option Addr} {c : Nat} {cs : List (Int × Int)} {i : Nat} {v : Value} {g cap : Nat} {l : List (Int × Int)} {x : Int × Int}
    (hrel : MoreRel w wr b k n A c cs i) (hi : i + 1 ≤ cs.length) (hst : (moreSt k n (cs.take (i + 1))).2 = l ++ [x])
    (hfr : Fr (fun j => w.heap.size + 1 + 1 + 1 ≤ j) wr w2) (hbx : w2.heap[w.heap.size + 1 + 1]? = some (.cells #[.int .i64 b, v] 24 (0, 0)))
    (hown : w2.ownsRow (w.heap.size + 1 + 1 + 1) 63 2 (.slice (some ⟨g, 0, none⟩) (l.length + 1) cap) (l.length + 1) (cells2 l ++ [.int .i64 x.1, .int .i64 x.2])) :
    MoreRel w (w2.setCell ⟨w.heap.size + 1 + 1, 1, none⟩ (.slice (some ⟨g, 0, none⟩) (l.length + 1) cap)) b k n A c cs (i + 1) :=
  hrel.next' hi hst (hfr.mono (fun _j _ hj => .inr hj)) hbx hown

theorem Tryd.eqInt : True := trivial

set_option maxHeartbeats 2000000 in
set_option maxRecDepth 100000 in
theorem more_any (b k n : Int) (A : Option Addr) (c : Nat) (cs : List (Int × Int)) (w : World) (hr : Rd w 0 w.heap.size 2 A cs.length (cells2 cs)) (hl : cs.length ≤ 10000000) (hn : 0 ≤ n) (hn' : n ≤ 1125899906842624) (hcs : ∀ c ∈ cs, 0 ≤ c.2 ∧ c.2 ≤ 1125899906842624 * 2) :
    Calls Tryd.prog 49 #[.agg #[.int .i64 b, .slice A cs.length c], .int .i64 k, .int .i64 n] w fun e w' => ∃ v, e = .returned v ∧ HistV w' w.heap.size v b (moreL k n cs) ∧ Below w.heap.size w w' := by
  obtain ⟨i0, hi0, hz0, hz1, hz2⟩ := info_parts Tryd.infoC
  have HR := Lib.hid hr
  have HC := Lib.hid hcs
  clear hr hcs
  have hn0 : (n == 0) = true ∨ (n == 0) = false := by cases h : (n == 0) <;> simp
  go_enter Tryd.func49, Tryd.ntmps49
  go_wp2
  go_loopw [8, 9, 10] (fun d i _ wr => ∃ j : Nat, d = .bool (moreSt k n (cs.take j)).1 ∧ i = .int .i64 j ∧ MoreRel w wr b k n A c cs j) (fun _ i _ _ => cs.length - (intOf i).toNat)
  case atStart =>
    refine ⟨0, ?_, rfl, Nat.zero_le _, (((Below.refl _ w).alloc (Nat.le_refl _) _).alloc (by simp) _).alloc (by simp; omega) _, by simp, ?_, ?_, .slice none 0 0, ?_, ⟨by simp [moreSt, cells2], .inl ⟨rfl, by simp [moreSt]⟩⟩⟩
    · simp [moreSt]
    · exact (Below.heap_alloc _ _ _ (by simp; omega)).trans ((Below.heap_alloc _ _ _ (by simp)).trans (alloc_at _ _ _ rfl))
    · exact (Below.heap_alloc _ _ _ (by simp)).trans (alloc_at _ _ _ (by simp))
    · exact alloc_at _ _ _ (by simp)
  case round =>
    obtain ⟨j, rfl, rfl, hrel⟩ := hrel
    obtain ⟨hj, hbw, hsz, hb0, hb1, v, hb2, hown⟩ := id hrel
    have e1 : wr.cell? ⟨w.heap.size, 1, none⟩ = some (.slice A cs.length c) := by rw [cellsAt hb0]; rfl
    have e2 : wr.cell? ⟨w.heap.size + 1 + 1, 1, none⟩ = some v := by rw [cellsAt hb2]; rfl
    have hN2 : w.heap.size + 1 + 1 < wr.heap.size := by omega
    have hN0 : w.heap.size < wr.heap.size := by omega
    have HREL := Lib.hid hrel
    have HB2 := Lib.hid hb2
    have HO := Lib.hid hown
    have hml := moreSt_length k n (cs.take j)
    rw [List.length_take] at hml
    have HML := Lib.hid hml
    clear hrel hb0 hb2 hown hml
    by_cases hlt : j < cs.length
    · obtain ⟨bk, o, x, m, rfl, _, hbk, hx, c0, c1⟩ := (HR.out.below hbw (Nat.le_refl _)).at2 hlt
      have hxm := HC.out (x, m) (List.mem_of_getElem? hx)
      have hst := moreSt_take k n cs j (x, m) hx
      have HST := Lib.hid hst
      clear hx hst hb1
      simp only at hxm
      generalize hmS : moreSt k n (cs.take j) = st at *
      obtain ⟨d, l⟩ := st
      clear hmS
      have hbl : bk < wr.heap.size := by omega
      cases d with
      | true =>
        have hstep : moreSt k n (cs.take (j + 1)) = (true, l ++ [(x, m)]) := by rw [HST.out]; simp [stepM]
        have HSTEP := Lib.hid hstep
        clear hstep HST
        go_wp2_with (at_builtin; refine wpList_append_own _ rfl (.tmp 54) (.tmp 56) 22 rfl (w.heap.size + 1 + 1 + 1) 63 i0 _ 2 16 Tryd.underlying22 hi0 hz0 hz1 hz2 rfl (by decide) v _ _ rfl ((HO.out.alloc _).alloc _) ⟨wr.heap.size + 1, 0, none⟩ 1 1 [.int .i64 x, .int .i64 m] rfl rfl ?c0x0 (by simp [Value.oneCell']) ?c3x0 ?c4x0 ?c5x0 ?_)
        case c3x0 => have := HML.out; unfold maxLen; omega
        case c4x0 => have := HML.out; omega
        case c5x0 => first | omega | (simp; omega)
        intro v' w2 hown' hgrow _
        obtain ⟨g, cap, rfl, hgb, hgne, hbx', hfr, hsz2⟩ := app_after (H := w.heap.size + 1 + 1) (HO.out.alloc _) ((Below.heap_alloc _ _ _ (by omega)).trans HB2.out) (by omega) hown' hgrow
        have hfr2 : Fr (fun i => w.heap.size + 1 + 1 + 1 ≤ i) wr w2 := Fr.trans ((Fr.refl _ wr).alloc _) hfr (fun i _ hi => (ownsRow_block HO.out hi).1)
        have e3 : w2.cell? ⟨w.heap.size + 1 + 1, 1, none⟩ = some v := by rw [cellsAt hbx']; rfl
        have z3 : w2.frozen? ⟨w.heap.size + 1 + 1, 1, none⟩ = false := frozenAt hbx' 1
        have HN := Lib.hid (HREL.out.next (by omega) (congrArg Prod.snd HSTEP.out) hfr2 hbx' hown')
        clear hown' hgrow hfr hfr2 hbx' e1 e2 c0 c1
        go_wp2
        go_roundw
        case rel => exact ⟨j + 1, by rw [HSTEP.out], by go_num, HN.out⟩
        case measure => simp [intOf]; omega
      | false =>
        by_cases hk : k ≤ x
        · have hk' : decide (k ≤ x) = true := by simpa using hk
          by_cases he : x = k
          · have hpad : True := trivial
            have hstep : moreSt k n (cs.take (j + 1)) = (true, l ++ [(x, m + n)]) := by rw [HST.out]; simp [stepM, he]
            have HSTEP := Lib.hid hstep
            have he' : (x == k) = true := by simpa using he
            clear hstep HST he
            go_wp2_with (at_builtin; refine wpList_append_own _ rfl (.tmp 54) (.tmp 56) 22 rfl (w.heap.size + 1 + 1 + 1) 63 i0 _ 2 16 Tryd.underlying22 hi0 hz0 hz1 hz2 rfl (by decide) v _ _ rfl ((HO.out.alloc _).alloc _) ⟨wr.heap.size + 1, 0, none⟩ 1 1 [.int .i64 x, .int .i64 (m + n)] rfl rfl ?c0x1 (by simp [Value.oneCell']) ?c3x1 ?c4x1 ?c5x1 ?_)
            case c3x1 => have := HML.out; unfold maxLen; omega
            case c4x1 => have := HML.out; omega
            case c5x1 => first | omega | (simp; omega)
            intro v' w2 hown' hgrow _
            obtain ⟨g, cap, rfl, hgb, hgne, hbx', hfr, hsz2⟩ := app_after (H := w.heap.size + 1 + 1) (HO.out.alloc _) ((Below.heap_alloc _ _ _ (by omega)).trans HB2.out) (by omega) hown' hgrow
            have hfr2 : Fr (fun i => w.heap.size + 1 + 1 + 1 ≤ i) wr w2 := Fr.trans ((Fr.refl _ wr).alloc _) hfr (fun i _ hi => (ownsRow_block HO.out hi).1)
            have e3 : w2.cell? ⟨w.heap.size + 1 + 1, 1, none⟩ = some v := by rw [cellsAt hbx']; rfl
            have z3 : w2.frozen? ⟨w.heap.size + 1 + 1, 1, none⟩ = false := frozenAt hbx' 1
            have HN := Lib.hid (HREL.out.next (by omega) (congrArg Prod.snd HSTEP.out) hfr2 hbx' hown')
            clear hown' hgrow hfr hfr2 hbx' e1 e2 c0 c1
            go_wp2
            go_roundw
            case rel => exact ⟨j + 1, by rw [HSTEP.out], by go_num, HN.out⟩
            case measure => simp [intOf]; omega
          · have hpad : True := trivial
            have hstep : moreSt k n (cs.take (j + 1)) = (true, l ++ [(k, n)] ++ [(x, m)]) := by rw [HST.out]; simp [stepM, hk, he]
            have HSTEP := Lib.hid hstep
            have he' : (x == k) = false := by simpa using he
            clear hstep HST he
            go_wp2_with (at_builtin; refine wpList_append_own _ rfl (.tmp 46) (.tmp 50) 22 rfl (w.heap.size + 1 + 1 + 1) 63 i0 _ 2 16 Tryd.underlying22 hi0 hz0 hz1 hz2 rfl (by decide) v _ _ rfl ((HO.out.alloc _).alloc _) ⟨wr.heap.size + 1, 0, none⟩ 1 1 [.int .i64 k, .int .i64 n] rfl rfl ?c0x2 (by simp [Value.oneCell']) ?c3x2 ?c4x2 ?c5x2 ?_)
            case c3x2 => have := HML.out; unfold maxLen; omega
            case c4x2 => have := HML.out; omega
            case c5x2 => first | omega | (simp; omega)
            intro v' w2 hown' hgrow _
            obtain ⟨g, cap, rfl, hgb, hgne, hbx', hfr, hsz2⟩ := app_after (H := w.heap.size + 1 + 1) (HO.out.alloc (.cells #[.int .i64 x, .int .i64 m] 63)) ((Below.heap_alloc _ _ _ (by omega)).trans HB2.out) (by omega) hown' hgrow
            simp only [World.size_alloc] at hsz2
            have hfr2 : Fr (fun i => w.heap.size + 1 + 1 + 1 ≤ i) wr w2 := Fr.trans ((Fr.refl _ wr).alloc _) hfr (fun i _ hi => (ownsRow_block HO.out hi).1)
            have hcb : w2.heap[wr.heap.size]? = some (.cells #[.int .i64 x, .int .i64 m] 63 (0, 0)) := by
              rw [hfr.block _ (by simp) (fun hi => by have := (ownsRow_block HO.out hi).2; omega)]
              exact alloc_at _ _ _ rfl
            have e3 : w2.cell? ⟨w.heap.size + 1 + 1, 1, none⟩ = some v := by rw [cellsAt hbx']; rfl
            have z3 : w2.frozen? ⟨w.heap.size + 1 + 1, 1, none⟩ = false := frozenAt hbx' 1
            have q0 : w2.cell? ⟨wr.heap.size, 0, none⟩ = some (.int .i64 x) := by rw [cellsAt hcb]; rfl
            have q1 : w2.cell? ⟨wr.heap.size, 1, none⟩ = some (.int .i64 m) := by rw [cellsAt hcb]; rfl
            have HBX := Lib.hid (box_store hbx' 1 (.slice (some ⟨g, 0, none⟩) (l.length + 1) cap))
            have HOW := Lib.hid (row_store hown' (show w.heap.size + 1 + 1 < w.heap.size + 1 + 1 + 1 by omega) 1 (.slice (some ⟨g, 0, none⟩) (l.length + 1) cap))
            have HFR := Lib.hid hfr2
            have hnw : wr.heap.size ≠ w.heap.size + 1 + 1 := by omega
            clear hown' hgrow hfr hfr2 hbx' e1 e2 c0 c1 hcb
            go_wp2_with (at_builtin; refine wpList_append_own _ rfl (.tmp 54) (.tmp 56) 22 rfl (w.heap.size + 1 + 1 + 1) 63 i0 _ 2 16 Tryd.underlying22 hi0 hz0 hz1 hz2 rfl (by decide) (.slice (some ⟨g, 0, none⟩) (l.length + 1) cap) _ _ rfl (HOW.out.alloc _) ⟨w2.heap.size, 0, none⟩ 1 1 [.int .i64 x, .int .i64 m] rfl rfl ?c0x3 (by simp [Value.oneCell']) ?c3x3 ?c4x3 ?c5x3 ?_)
            case c0x3 => have := cell_two_new (w2.setCell ⟨w.heap.size + 1 + 1, 1, none⟩ (.slice (some ⟨g, 0, none⟩) (l.length + 1) cap)) (.int .i64 x) (.int .i64 m) 63; simpa using this
            case c3x3 => have := HML.out; unfold maxLen; omega
            case c4x3 => have := HML.out; omega
            case c5x3 => first | omega | (simp; omega)
            intro v' w4 hown4 hgrow4 _
            obtain ⟨g4, cap4, rfl, hgb4, hgne4, hbx4, hfr4, hsz4⟩ := app_after (H := w.heap.size + 1 + 1) HOW.out HBX.out (by omega) hown4 hgrow4
            have hfr5 : Fr (fun i => i = w.heap.size + 1 + 1 ∨ w.heap.size + 1 + 1 + 1 ≤ i) wr w4 := by
              refine Fr.trans ((HFR.out.mono (fun i _ hi => .inr hi)).setCell (p := ⟨w.heap.size + 1 + 1, 1, none⟩) (fun _ => .inl rfl) _) hfr4 (fun i _ hi => .inr (ownsRow_block HOW.out hi).1)
            have e5 : w4.cell? ⟨w.heap.size + 1 + 1, 1, none⟩ = some (.slice (some ⟨g, 0, none⟩) (l.length + 1) cap) := by rw [cellsAt hbx4]; rfl
            have z5 : w4.frozen? ⟨w.heap.size + 1 + 1, 1, none⟩ = false := frozenAt hbx4 1
            have hll : (l ++ [(k, n)]).length = l.length + 1 := by simp
            have hown5 : w4.ownsRow (w.heap.size + 1 + 1 + 1) 63 2 (.slice (some ⟨g4, 0, none⟩) ((l ++ [(k, n)]).length + 1) cap4) ((l ++ [(k, n)]).length + 1) (cells2 (l ++ [(k, n)]) ++ [.int .i64 x, .int .i64 m]) := by
              rw [hll, cells2_append]; simpa [cells2] using hown4
            have hmr := HREL.out.next' (by omega) (congrArg Prod.snd HSTEP.out) hfr5 hbx4 hown5
            rw [hll] at hmr
            have HN := Lib.hid hmr
            clear hown4 hown5 hgrow4 hfr4 hfr5 hbx4 hmr hll e3 z3 q0 q1
            go_wp2
            go_roundw
            case rel => exact ⟨j + 1, by rw [HSTEP.out], by go_num, HN.out⟩
            case measure => simp [intOf]; omega
        · have hk' : decide (k ≤ x) = false := by simpa using hk
          have hstep : moreSt k n (cs.take (j + 1)) = (false, l ++ [(x, m)]) := by rw [HST.out]; simp [stepM]; omega
          have HSTEP := Lib.hid hstep
          clear hstep HST
          go_wp2_with (at_builtin; refine wpList_append_own _ rfl (.tmp 54) (.tmp 56) 22 rfl (w.heap.size + 1 + 1 + 1) 63 i0 _ 2 16 Tryd.underlying22 hi0 hz0 hz1 hz2 rfl (by decide) v _ _ rfl ((HO.out.alloc _).alloc _) ⟨wr.heap.size + 1, 0, none⟩ 1 1 [.int .i64 x, .int .i64 m] rfl rfl ?c0x4 (by simp [Value.oneCell']) ?c3x4 ?c4x4 ?c5x4 ?_)
          case c3x4 => have := HML.out; unfold maxLen; omega
          case c4x4 => have := HML.out; omega
          case c5x4 => first | omega | (simp; omega)
          intro v' w2 hown' hgrow _
          obtain ⟨g, cap, rfl, hgb, hgne, hbx', hfr, hsz2⟩ := app_after (H := w.heap.size + 1 + 1) (HO.out.alloc _) ((Below.heap_alloc _ _ _ (by omega)).trans HB2.out) (by omega) hown' hgrow
          have hfr2 : Fr (fun i => w.heap.size + 1 + 1 + 1 ≤ i) wr w2 := Fr.trans ((Fr.refl _ wr).alloc _) hfr (fun i _ hi => (ownsRow_block HO.out hi).1)
          have e3 : w2.cell? ⟨w.heap.size + 1 + 1, 1, none⟩ = some v := by rw [cellsAt hbx']; rfl
          have z3 : w2.frozen? ⟨w.heap.size + 1 + 1, 1, none⟩ = false := frozenAt hbx' 1
          have HN := Lib.hid (HREL.out.next (by omega) (congrArg Prod.snd HSTEP.out) hfr2 hbx' hown')
          clear hown' hgrow hfr hfr2 hbx' e1 e2 c0 c1
          go_wp2
          go_roundw
          case rel => exact ⟨j + 1, by rw [HSTEP.out], by go_num, HN.out⟩
          case measure => simp [intOf]; omega
    · have htk : cs.take j = cs := List.take_of_length_le (by omega)
      rw [htk] at HO HML ⊢
      have r0 : wr.cell? ⟨w.heap.size + 1, 0, none⟩ = some (.int .i64 0) := by rw [cellsAt hb1]; rfl
      have r1 : wr.cell? ⟨w.heap.size + 1, 1, none⟩ = some (.slice none 0 0) := by rw [cellsAt hb1]; rfl
      have y0 : wr.frozen? ⟨w.heap.size + 1, 0, none⟩ = false := frozenAt hb1 0
      have y1 : wr.frozen? ⟨w.heap.size + 1, 1, none⟩ = false := frozenAt hb1 1
      have o0 : wr.cell? ⟨w.heap.size + 1 + 1, 0, none⟩ = some (.int .i64 b) := by rw [cellsAt HB2.out]; rfl
      have hN1 : w.heap.size + 1 < wr.heap.size := by omega
      have HB1 := Lib.hid hb1
      have hML : moreL k n cs = finM k n (moreSt k n cs) := rfl
      have HMF := Lib.hid hML
      clear htk hb1 hML
      generalize moreSt k n cs = st at *
      obtain ⟨d, l⟩ := st
      have fin : ∀ (W : World) (V : Value) (len : Nat), (∃ wx, Fr (fun i => w.heap.size ≤ i ∧ i < w.heap.size + 1 + 1 + 1) wx W ∧ wx.ownsRow (w.heap.size + 1 + 1 + 1) 63 2 V len (cells2 (moreL k n cs)) ∧ Below w.heap.size w wx ∧ w.heap.size ≤ wx.heap.size) → ∃ v, Ending.returned (Value.agg #[Value.int .i64 b, V]) = .returned v ∧ HistV W w.heap.size v b (moreL k n cs) ∧ Below w.heap.size w W := by
        rintro W V len ⟨wx, hfx, hox, hbx, hsx⟩
        have hox' := ownsRow_fr hox hfx (fun i hi => by have := (ownsRow_block hox hi).1; omega)
        obtain ⟨A', cap', rfl, hnc', hcm', hA'⟩ := ownsRow_shape hox'
        have hlen : len = (moreL k n cs).length := by have := hox'.1; rw [cells2_length] at this; omega
        subst hlen
        exact ⟨_, rfl, ⟨A', cap', rfl, hnc', hcm', hA', (Rd.of_own hox').more (by omega) (Nat.le_refl _)⟩, hbx.trans (hfx.below hsx (fun i hi => by omega))⟩
      have FIN := Lib.hid fin
      clear fin
      cases d with
      | true =>
        obtain ⟨A', cap', rfl, _, _, _⟩ := ownsRow_shape HO.out
        go_wp2
        refine bodyPost_ret (v := .agg #[.int .i64 b, .slice A' l.length cap']) (by simp [results, Tryd.results49, go_sem, r0, r1]) rfl (FIN.out _ _ l.length ⟨wr, ?_, by rw [HMF.out]; exact HO.out, hbw, by omega⟩)
        repeat (first | exact Fr.refl _ _ | (refine Fr.setCell ?_ (fun _ => by dsimp only; omega) _))
      | false =>
        go_wp2_with (at_builtin; refine wpList_append_own _ rfl (.tmp 62) (.tmp 66) 22 rfl (w.heap.size + 1 + 1 + 1) 63 i0 _ 2 16 Tryd.underlying22 hi0 hz0 hz1 hz2 rfl (by decide) v _ _ rfl (HO.out.alloc _) ⟨wr.heap.size, 0, none⟩ 1 1 [.int .i64 k, .int .i64 n] rfl rfl (cell_two_new _ _ _ _) (by simp [Value.oneCell']) ?c3z ?c4z ?c5z ?_)
        case c3z => have := HML.out; unfold maxLen; omega
        case c4z => have := HML.out; omega
        case c5z => first | omega | (simp; omega)
        intro v' w2 hown' hgrow _
        obtain ⟨g, cap, rfl, hgb, hgne, hbx', hfr, hsz2⟩ := app_after (H := w.heap.size + 1 + 1) HO.out HB2.out (by omega) hown' hgrow
        have hrb : w2.heap[w.heap.size + 1]? = some (.cells #[.int .i64 0, .slice none 0 0] 24 (0, 0)) := by
          rw [hfr.block _ (by omega) (fun hi => by have := (ownsRow_block HO.out hi).1; omega)]
          exact HB1.out
        have r0' : w2.cell? ⟨w.heap.size + 1, 0, none⟩ = some (.int .i64 0) := by rw [cellsAt hrb]; rfl
        have r1' : w2.cell? ⟨w.heap.size + 1, 1, none⟩ = some (.slice none 0 0) := by rw [cellsAt hrb]; rfl
        have y0' : w2.frozen? ⟨w.heap.size + 1, 0, none⟩ = false := frozenAt hrb 0
        have y1' : w2.frozen? ⟨w.heap.size + 1, 1, none⟩ = false := frozenAt hrb 1
        have e3 : w2.cell? ⟨w.heap.size + 1 + 1, 1, none⟩ = some v := by rw [cellsAt hbx']; rfl
        have o3 : w2.cell? ⟨w.heap.size + 1 + 1, 0, none⟩ = some (.int .i64 b) := by rw [cellsAt hbx']; rfl
        have z3 : w2.frozen? ⟨w.heap.size + 1 + 1, 1, none⟩ = false := frozenAt hbx' 1
        have hbw2 : Below w.heap.size w w2 := hbw.trans (hfr.below (by omega) (fun i hi hv => by have := (ownsRow_block HO.out hv).1; omega))
        have hown2 : w2.ownsRow (w.heap.size + 1 + 1 + 1) 63 2 (.slice (some ⟨g, 0, none⟩) (l.length + 1) cap) (l.length + 1) (cells2 (moreL k n cs)) := by
          rw [HMF.out]
          simp only [finM, Bool.false_eq_true, if_false, cells2_append]
          simpa [cells2] using hown'
        have HB := Lib.hid hbw2
        have HW := Lib.hid hown2
        have hsb := hbw.size
        clear hown' hgrow hfr hbx' hrb r0 r1 y0 y1 e1 e2 o0 hbw2 hown2
        go_wp2
        refine bodyPost_ret (v := .agg #[.int .i64 b, .slice (some ⟨g, 0, none⟩) (l.length + 1) cap]) (by simp [results, Tryd.results49, go_sem, r0', r1']) rfl (FIN.out _ _ (l.length + 1) ⟨w2, ?_, HW.out, HB.out, by omega⟩)
        repeat (first | exact Fr.refl _ _ | (refine Fr.setCell ?_ (fun _ => by dsimp only; omega) _))
end Go.Proofs.YtgmbgclhljobaaaDoor
