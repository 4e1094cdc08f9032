/- Package load: Spans: two rows that are being made, beside a box. -/
import Derived.Test.YtajokainammahaaUsers
import Derived.Test.YtajokainammahaaSpanMath
namespace Go.Proofs.Ytajokainammahaa
open Go Go.RowKit Go.Proofs

theorem infoIs : (Try.prog.info? 3).map (fun i => (i.zero, i.size, i.bytes)) = some (some (.int .i64 0), 1, 8) := by kernel_rfl
theorem Try.infoSp : (Try.prog.info? 44).map (fun i => (i.zero, i.size, i.bytes)) = some (some (.agg #[.int .i64 0, .int .i64 0, .int .i64 0]), 3, 24) := by kernel_rfl
theorem cells3_snoc : ∀ (l : List (Int × Int × Int)) (s : Int × Int × Int), cells3 (l ++ [s]) = cells3 l ++ [.int .i64 s.1, .int .i64 s.2.1, .int .i64 s.2.2]
  | [], s => rfl
  | x :: r, s => by rw [List.cons_append, cells3, cells3_snoc r]; rfl
/-- the users who are there (v6) and the spans (v7), beside the box cB -/
structure SpI (w1 wr : World) (cB : Nat) (o : Obj) (v6 v7 : Value) (st : Stk) : Prop where
  own1 : wr.ownsRow w1.heap.size 3 1 v6 st.1.length (ints st.1)
  own2 : wr.ownsRow w1.heap.size 44 3 v7 st.2.length (cells3 st.2)
  ne : ∀ i, some i = v6.ownBlock → some i ≠ v7.ownBlock
  below : Below w1.heap.size w1 wr
  box : wr.heap[cB]? = some o
  ne1 : some cB ≠ v6.ownBlock
  ne2 : some cB ≠ v7.ownBlock
section
variable {w1 wr W : World} {cB : Nat} {o : Obj} {v6 v7 : Value} {st : Stk}
theorem SpI.on (h : SpI w1 wr cB o v6 v7 st) (hb : Below wr.heap.size wr W) : SpI w1 W cB o v6 v7 st where
  own1 := ownsRow_fr h.own1 (Fr.of_below hb) (fun i hi hm => by have := (ownsRow_block h.own1 hi).2; omega)
  own2 := ownsRow_fr h.own2 (Fr.of_below hb) (fun i hi hm => by have := (ownsRow_block h.own2 hi).2; omega)
  ne := h.ne
  below := below_next h.below hb
  box := (hb.block cB (heap_lt h.box)).trans h.box
  ne1 := h.ne1
  ne2 := h.ne2
theorem SpI.push {g cap : Nat} {T : Int} (h : SpI w1 wr cB o v6 v7 st) (hown : W.ownsRow w1.heap.size 3 1 (.slice (some ⟨g, 0, none⟩) (st.1.length + 1) cap) (st.1.length + 1) (ints st.1 ++ [.int .i64 T])) (hg : wr.grownBy W v6.ownBlock) (hat : v6.ownBlock = some g ∨ wr.heap.size ≤ g) :
    SpI w1 W cB o (.slice (some ⟨g, 0, none⟩) (st.1.length + 1) cap) v7 (st.1 ++ [T], st.2) where
  own1 := by simpa [ints] using hown
  own2 := ownsRow_fr h.own2 (Fr.of_grown hg) (fun i hi hm => h.ne i hm hi)
  ne := fun i hi h7 => by
    have hi : i = g := by simpa [Value.ownBlock] using hi
    subst hi
    rcases hat with e | e
    · exact h.ne i e.symm h7
    · have := (ownsRow_block h.own2 h7).2; omega
  below := h.below.trans ((Fr.of_grown hg).below (B := w1.heap.size) h.below.size (fun i hi hm => by have := (ownsRow_block h.own1 hm).1; omega))
  box := ((Fr.of_grown hg).block cB (heap_lt h.box) h.ne1).trans h.box
  ne1 := fun e => by
    have e : cB = g := by simpa [Value.ownBlock] using e
    subst e
    rcases hat with e | e
    · exact h.ne1 e.symm
    · have := heap_lt h.box; omega
  ne2 := h.ne2
theorem SpI.tell {g cap : Nat} {s : Int × Int × Int} (h : SpI w1 wr cB o v6 v7 st) (hown : W.ownsRow w1.heap.size 44 3 (.slice (some ⟨g, 0, none⟩) (st.2.length + 1) cap) (st.2.length + 1) (cells3 st.2 ++ [.int .i64 s.1, .int .i64 s.2.1, .int .i64 s.2.2])) (hg : wr.grownBy W v7.ownBlock) (hat : v7.ownBlock = some g ∨ wr.heap.size ≤ g) :
    SpI w1 W cB o v6 (.slice (some ⟨g, 0, none⟩) (st.2.length + 1) cap) (st.1, st.2 ++ [s]) where
  own1 := ownsRow_fr h.own1 (Fr.of_grown hg) (fun i hi hm => h.ne i hi hm)
  own2 := by simpa [cells3_snoc] using hown
  ne := fun i hi h7 => by
    have h7 : i = g := by simpa [Value.ownBlock] using h7
    subst h7
    rcases hat with e | e
    · exact h.ne i hi e.symm
    · have := (ownsRow_block h.own1 hi).2; omega
  below := h.below.trans ((Fr.of_grown hg).below (B := w1.heap.size) h.below.size (fun i hi hm => by have := (ownsRow_block h.own2 hm).1; omega))
  box := ((Fr.of_grown hg).block cB (heap_lt h.box) h.ne2).trans h.box
  ne1 := h.ne1
  ne2 := fun e => by
    have e : cB = g := by simpa [Value.ownBlock] using e
    subst e
    rcases hat with e | e
    · exact h.ne2 e.symm
    · have := heap_lt h.box; omega
theorem ownsRow_cut {w : World} {base : Nat} {e : TypeId} {k n g cap : Nat} {xs : List Value} (h : w.ownsRow base e k (.slice (some ⟨g, 0, none⟩) n cap) n xs) (m : Nat) (hm : m ≤ n) : w.ownsRow base e k (.slice (some ⟨g, 0, none⟩) m cap) m (xs.take (m * k)) := by
  have hmk : m * k ≤ n * k := Nat.mul_le_mul_right k hm
  refine ⟨by rw [List.length_take, h.1]; omega, ?_⟩
  rcases h.2 with ⟨h0, _⟩ | ⟨g', cap', cur, hv, hb, hh, h1, h2, h3, h4⟩
  · cases h0
  · cases hv
    exact .inr ⟨g, cap, cur, rfl, hb, hh, by omega, h2, h3, by rw [← h4, List.take_take, Nat.min_eq_left hmk]⟩
theorem ints_take (l : List Int) (n : Nat) : (ints l).take n = ints (l.take n) := by simp [ints, List.map_take]
theorem SpI.pop {g cap : Nat} {bg : List Int} {out : List (Int × Int × Int)} (h : SpI w1 wr cB o (.slice (some ⟨g, 0, none⟩) bg.length cap) v7 (bg, out)) :
    SpI w1 wr cB o (.slice (some ⟨g, 0, none⟩) (bg.length - 1) cap) v7 (bg.dropLast, out) where
  own1 := by
    have := ownsRow_cut h.own1 (bg.length - 1) (by simp)
    rw [Nat.mul_one, ints_take] at this
    simpa [List.dropLast_eq_take] using this
  own2 := h.own2
  ne := h.ne
  below := h.below
  box := h.box
  ne1 := h.ne1
  ne2 := h.ne2
end
/-- Users' changes -/
theorem run_all {l : List (Int × Int × Int)} (h : ∀ s ∈ l, OkS s) : ∀ k, k ≤ l.length → ∃ c b, RunOk l k c b
  | 0, _ => ⟨_, _, run_zero l⟩
  | k + 1, hk => by
    obtain ⟨c, b, hr⟩ := run_all h k (by omega)
    have hs : l[k]? = some l[k] := List.getElem?_eq_getElem (by omega)
    exact ⟨_, _, run_next hr hs (h _ (List.getElem_mem _)).u⟩
theorem users_ok {l : List (Int × Int × Int)} (h : usrC l = 0) : (∃ hi, Asc (usrL l) hi) ∧ nowC (usrL l) = 0 ∧ (usrL l).length ≤ 10000 := by
  have hL : usrL l = (usersC l).1 := by unfold usrL; rw [if_pos h]
  unfold usrC at h
  split at h
  · rename_i hc; exact absurd h hc
  · rename_i hc
    split at h
    · omega
    · rename_i hs
      obtain ⟨c, b, hr⟩ := run_all (codeS_ok (by simpa using hc)).ok l.length (Nat.le_refl _)
      rw [hL, users_of hr]
      rw [users_of hr] at hs
      have h1 := setC_len c b 0
      have h2 := hr.len
      exact ⟨⟨_, setC_asc hr.asc (Int.le_refl _) hr.b0 (Int.le_refl _) (by omega)⟩, setC_now _ _ _, by omega⟩
end Go.Proofs.Ytajokainammahaa
