import Derived.Test.YtjkoppdddaknlaaGreatDoorG28
import Derived.Test.YtjkoppdddaknlaaGreatDoorMore
import Derived.StillTailTactics
import Derived.Test.YtjkoppdddaknlaaGreatDoorG29
import Derived.Lib.Strings
/- The reference's valuesFault, of, Of. -/
namespace Go.Proofs.YtjkoppdddaknlaaGreatDoor
open Go Go.RowKit Go.Proofs Go.Maps

/-- the value v is a histogram: its bits and its counts, in blocks from L on (its capacity untold) -/
def HistR (w : World) (L : Nat) (v : Value) (b : Int) (cs : List (Int × Int)) : Prop :=
  ∃ A c, v = .agg #[.int .i64 b, .slice A cs.length c] ∧ Rd w L w.heap.size 2 A cs.length (cells2 cs)
theorem HistV.r {w : World} {L : Nat} {v : Value} {b : Int} {cs : List (Int × Int)} (h : HistV w L v b cs) : HistR w L v b cs := by
  obtain ⟨A, c, e, _, _, _, hr⟩ := h; exact ⟨A, c, e, hr⟩

theorem mixed : Tryz.prog.follows .mixedOrders = true := by kernel_rfl

theorem hist_num {f : Int → Int} {cs : List (Int × Int)} (h : IsHist f cs) (hf : ∀ x, f x ≤ 1125899906842624 * 2) : ∀ c ∈ cs, 0 ≤ c.2 ∧ c.2 ≤ 1125899906842624 * 2 := by
  intro c hc
  obtain ⟨x, n⟩ := c
  have h1 := (h.2 x n).1 hc
  have h2 := hf x
  simp only; omega

end Go.Proofs.YtjkoppdddaknlaaGreatDoor

/- Samples by their labels: the rows. No program in sight. -/
namespace Go.Proofs.YtjkoppdddaknlaaGreatDoor
open Go Go.RowKit Go.Proofs

/-- texts as bytes -/
def ky (vs : List ByteArray) : Ky := vs.map (·.toList)
theorem ba_inj {a b : ByteArray} (h : a.toList = b.toList) : a = b := by
  rw [Lib.toList_data, Lib.toList_data] at h
  cases a; cases b
  simp only [Array.toList_inj] at h
  rw [h]
theorem ky_inj {a b : List ByteArray} (h : ky a = ky b) : a = b := (List.map_inj_right (f := ByteArray.toList) (fun _ _ e => ba_inj e)).1 h
/-- two lists of one length with the same tail -/
theorem ky_tail : ∀ {a b t : Ky}, a.length = b.length → (a ++ t < b ++ t ↔ a < b)
  | [], [], t, _ => by simp [ky_irr]
  | x :: a, y :: b, t, h => by
    rw [List.cons_append, List.cons_append, ky_cons, ky_cons, ky_tail (by simpa using h)]
/-- a row: the texts, the histogram, how many have failed -/
abbrev Gr := List ByteArray × List (Int × Int) × Int
section
variable {kf : Nat → List ByteArray} {tk : Nat → Int} {fl : Nat → Bool} {i : Nat}
/-- the took values, and the failures, of the first i samples with the key v -/
def tkK (kf : Nat → List ByteArray) (tk : Nat → Int) (i : Nat) (v : List ByteArray) : List Int := ofK (fun j => ky (kf j)) tk i (ky v)
def flK (kf : Nat → List ByteArray) (fl : Nat → Bool) (i : Nat) (v : List ByteArray) : Int := ((ofK (fun j => ky (kf j)) fl i (ky v)).countP id : Nat)
theorem ofK_length {α : Type} (K : Nat → Ky) (d : Nat → α) (i : Nat) (v : Ky) : (ofK K d i v).length ≤ i := by
  unfold ofK
  rw [List.length_map]
  have := List.length_filter_le (fun j => decide (K j = v)) (List.range i)
  rw [List.length_range] at this
  exact this
theorem ofK_mem {α : Type} {K : Nat → Ky} {d : Nat → α} {i : Nat} {v : Ky} {x : α} (h : x ∈ ofK K d i v) : ∃ j, j < i ∧ d j = x := by
  unfold ofK at h
  obtain ⟨j, hj, rfl⟩ := List.mem_map.1 h
  have := (List.mem_filter.1 hj).1
  rw [List.mem_range] at this
  exact ⟨j, this, rfl⟩
theorem flK_bd (v : List ByteArray) : 0 ≤ flK kf fl i v ∧ flK kf fl i v ≤ i := by
  unfold flK
  have h1 := List.countP_le_length (p := (id : Bool → Bool)) (l := ofK (fun j => ky (kf j)) fl i (ky v))
  have h2 := ofK_length (fun j => ky (kf j)) fl i (ky v)
  omega
theorem flK_same : flK kf fl (i + 1) (kf i) = flK kf fl i (kf i) + if fl i then 1 else 0 := by
  unfold flK
  rw [ofK_same (fun j => ky (kf j)) fl i, List.countP_append]
  cases fl i <;> simp
theorem flK_other {v : List ByteArray} (h : v ≠ kf i) : flK kf fl (i + 1) v = flK kf fl i v := by
  unfold flK
  rw [ofK_other (fun j => ky (kf j)) fl i (fun e => h (ky_inj e))]
theorem tkK_same : tkK kf tk (i + 1) (kf i) = tkK kf tk i (kf i) ++ [tk i] := ofK_same (fun j => ky (kf j)) tk i
theorem tkK_other {v : List ByteArray} (h : v ≠ kf i) : tkK kf tk (i + 1) v = tkK kf tk i v := ofK_other (fun j => ky (kf j)) tk i (fun e => h (ky_inj e))
/-- a row as it is behind i samples -/
def RowOk (kf : Nat → List ByteArray) (tk : Nat → Int) (fl : Nat → Bool) (i : Nat) (r : Gr) : Prop := IsHist (cntB 8 (tkK kf tk i r.1)) r.2.1 ∧ r.2.2 = flK kf fl i r.1
/-- the rows behind i samples -/
def GrOk (kf : Nat → List ByteArray) (tk : Nat → Int) (fl : Nat → Bool) (i : Nat) (rows : List Gr) : Prop :=
  KeysOfI (fun j => ky (kf j)) i (rows.map fun r => ky r.1) ∧ ∀ r ∈ rows, RowOk kf tk fl i r
theorem GrOk.zero : GrOk kf tk fl 0 [] := ⟨KeysOfI.zero _, fun r h => by cases h⟩
theorem RowOk.one {r s : Gr} (h : RowOk kf tk fl i r) (g : RowOk kf tk fl i s) (e : r.1 = s.1) : r = s := by
  obtain ⟨v, cs, f⟩ := r
  obtain ⟨v', cs', f'⟩ := s
  simp only at e
  subst e
  obtain ⟨h1, h2⟩ := h
  obtain ⟨g1, g2⟩ := g
  simp only at h1 h2 g1 g2
  rw [h1.uniq g1, h2, g2]
theorem GrOk.one {a b : List Gr} (ha : GrOk kf tk fl i a) (hb : GrOk kf tk fl i b) : a = b := by
  have hk := ha.1.one hb.1
  have hl : a.length = b.length := by have := congrArg List.length hk; simpa using this
  apply List.ext_getElem hl
  intro j h1 h2
  refine (ha.2 _ (List.getElem_mem h1)).one (hb.2 _ (List.getElem_mem h2)) (ky_inj ?_)
  have e1 : (a.map fun r => ky r.1)[j]'(by simpa using h1) = ky a[j].1 := by simp
  have e2 : (b.map fun r => ky r.1)[j]'(by simpa using h2) = ky b[j].1 := by simp
  rw [← e1, ← e2]
  simp only [hk]
/-- the rows of i samples, with a row for the next one's key -/
def GrPre (kf : Nat → List ByteArray) (tk : Nat → Int) (fl : Nat → Bool) (i : Nat) (rows : List Gr) : Prop :=
  KeysOfI (fun j => ky (kf j)) (i + 1) (rows.map fun r => ky r.1) ∧ ∀ r ∈ rows, RowOk kf tk fl i r
theorem GrOk.again {rows : List Gr} (h : GrOk kf tk fl i rows) {n : Nat} {r : Gr} (hr : rows[n]? = some r) (he : r.1 = kf i) : GrPre kf tk fl i rows :=
  ⟨h.1.again (by rw [← he]; exact List.mem_map.2 ⟨r, List.mem_of_getElem? hr, rfl⟩), h.2⟩
theorem rowOk_new (hn : ∀ j, j < i → kf j ≠ kf i) : RowOk kf tk fl i (kf i, [], 0) := by
  have h1 : tkK kf tk i (kf i) = [] := ofK_ne.2 fun j hj e => hn j hj (ky_inj e)
  have h2 : flK kf fl i (kf i) = 0 := by
    unfold flK
    rw [(ofK_ne (K := fun j => ky (kf j)) (d := fl) (i := i) (v := ky (kf i))).2 fun j hj e => hn j hj (ky_inj e)]
    rfl
  refine ⟨⟨List.Pairwise.nil, fun x n => ?_⟩, h2.symm⟩
  rw [h1]
  simp only [cntB, List.countP_nil, List.not_mem_nil, false_iff]
  rintro ⟨h3, h4⟩
  simp at h3
  omega
theorem GrOk.ins {rows : List Gr} (h : GrOk kf tk fl i rows) {n : Nat} (hn : n ≤ rows.length) (ha : ∀ j r, j < n → rows[j]? = some r → ky r.1 < ky (kf i)) (hx : n = rows.length ∨ ∃ r, rows[n]? = some r ∧ ky (kf i) < ky r.1) :
    GrPre kf tk fl i (rows.take n ++ (kf i, [], 0) :: rows.drop n) := by
  have hA : AheadK (rows.map fun r => ky r.1) (ky (kf i)) n := fun j x hj hx => by
    rw [List.getElem?_map] at hx
    cases hr : rows[j]? with
    | none => rw [hr] at hx; cases hx
    | some r => rw [hr] at hx; simp only [Option.map_some, Option.some.injEq] at hx; rw [← hx]; exact ha j r hj hr
  have hX : n = (rows.map fun r => ky r.1).length ∨ ∃ x, (rows.map fun r => ky r.1)[n]? = some x ∧ ky (kf i) < x := by
    rcases hx with h1 | ⟨r, h1, h2⟩
    · exact .inl (by simpa using h1)
    · exact .inr ⟨ky r.1, by rw [List.getElem?_map, h1]; rfl, h2⟩
  have hnew : ky (kf i) ∉ rows.map fun r => ky r.1 := (h.1.1.ins hA (by simpa using hn) hX).2.1
  have hk := h.1.ins hA (by simpa using hn) hX
  refine ⟨?_, fun r hr => ?_⟩
  · rw [List.map_append, List.map_cons, List.map_take, List.map_drop]
    exact hk
  · rcases List.mem_append.1 hr with h1 | h1
    · exact h.2 r (List.mem_of_mem_take h1)
    · rcases List.mem_cons.1 h1 with rfl | h1
      · exact rowOk_new fun j hj e => hnew ((h.1.2 _).2 ⟨j, hj, congrArg ky e⟩)
      · exact h.2 r (List.mem_of_mem_drop h1)
theorem rowOk_next {cs : List (Int × Int)} {f : Int} (h : RowOk kf tk fl i (kf i, cs, f)) : RowOk kf tk fl (i + 1) (kf i, moreL (bkt 8 (tk i)) 1 cs, f + if fl i then 1 else 0) := by
  obtain ⟨h1, h2⟩ := h
  simp only at h1 h2
  refine ⟨?_, ?_⟩
  · show IsHist (cntB 8 (tkK kf tk (i + 1) (kf i))) (moreL (bkt 8 (tk i)) 1 cs)
    rw [tkK_same, ← cntB_snoc]
    exact more_hist h1 (fun x => (cntB_bd 8 _ x).1) _ 1 (by omega)
  · show f + (if fl i then 1 else 0) = flK kf fl (i + 1) (kf i)
    rw [flK_same, ← h2]
theorem rowOk_other {r : Gr} (h : RowOk kf tk fl i r) (hne : r.1 ≠ kf i) : RowOk kf tk fl (i + 1) r := by
  obtain ⟨h1, h2⟩ := h
  exact ⟨by rw [tkK_other hne]; exact h1, by rw [flK_other hne]; exact h2⟩
theorem GrPre.upd {rows : List Gr} (h : GrPre kf tk fl i rows) {n : Nat} {cs : List (Int × Int)} {f : Int} (hr : rows[n]? = some (kf i, cs, f)) :
    GrOk kf tk fl (i + 1) (rows.set n (kf i, moreL (bkt 8 (tk i)) 1 cs, f + if fl i then 1 else 0)) := by
  obtain ⟨hn, hg⟩ := List.getElem?_eq_some_iff.1 hr
  have hmap : (rows.set n (kf i, moreL (bkt 8 (tk i)) 1 cs, f + if fl i then 1 else 0)).map (fun r => ky r.1) = rows.map fun r => ky r.1 := by
    rw [List.map_set]
    apply List.ext_getElem?
    intro j
    rw [List.getElem?_set]
    by_cases e : n = j
    · subst e
      rw [if_pos rfl, if_pos (by simpa using hn), List.getElem?_map, hr]; rfl
    · rw [if_neg e]
  refine ⟨by rw [hmap]; exact h.1, fun r hm => ?_⟩
  obtain ⟨j, hj, rfl⟩ := List.getElem_of_mem hm
  rw [List.length_set] at hj
  rw [List.getElem_set]
  by_cases e : n = j
  · subst e
    rw [if_pos rfl]
    exact rowOk_next (h.2 _ (List.mem_of_getElem? hr))
  · rw [if_neg e]
    refine rowOk_other (h.2 _ (List.getElem_mem hj)) fun e2 => e ?_
    have hnd := h.1.1.nodup
    have h1 : (rows.map fun r => ky r.1)[n]'(by simpa using hn) = (rows.map fun r => ky r.1)[j]'(by simpa using hj) := by
      rw [List.getElem_map, List.getElem_map, hg, e2]
    exact (List.getElem_inj hnd).1 h1
end
end Go.Proofs.YtjkoppdddaknlaaGreatDoor
