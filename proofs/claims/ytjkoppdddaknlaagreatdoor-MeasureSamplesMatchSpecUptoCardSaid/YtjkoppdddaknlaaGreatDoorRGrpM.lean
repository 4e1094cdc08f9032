/- Rows of Group of one's own: stores, a row more in between; copy at elements of several cells. -/
import Derived.Test.YtjkoppdddaknlaaGreatDoorKyCmp
import Derived.Laws.CopyOwn
import Derived.Maps.AppendAt
namespace Go
section
variable {P : Program}
theorem run_copy_rowK (w : World) (dT sT ty elem : TypeId) (k g o dLen dCap : Nat) (a : Addr) (sLen sCap : Nat) (cur : Array Value) (t : TypeId) (cs : List Value)
    (hu : P.underlying dT = some (.slice elem)) (hs : (P.info? elem).map (·.size) = some k)
    (hg : w.heap[g]? = some (.cells cur t (0, 0))) (hn : cs.length = Nat.min sLen dLen * k)
    (hsrc : ∀ j v, cs[j]? = some v → w.cell? (a.add j) = some v) (hfit : o + cs.length ≤ cur.size) (h1 : ∀ v ∈ cs, v.oneCell' = true) :
    (Builtin.copy_ #[dT, sT] ty #[.slice (some ⟨g, o, none⟩) dLen dCap, .slice (some a) sLen sCap]).run P w =
      .ok (goInt (Nat.min sLen dLen)) (w.setRow g (cur.toList.take o ++ cs ++ cur.toList.drop (o + cs.length)).toArray) := by
  have hl := run_loadCells_list (P := P) w a cs hsrc
  have hst := run_storeCells_at P g o t cs 0 cur w hg (by simpa using hfit) h1
  cases hq : P.info? elem with
  | none => simp [hq] at hs
  | some i =>
    have hi : i.size = k := by simpa [hq] using hs
    rw [hn] at hl
    simp [Builtin.copy_, run_underlying hu, Builtin.lenOf, Builtin.firstCells, sizeOf, typeInfo, hq, hi, hl, hst]
theorem run_copy_noneK (w : World) (dT sT ty elem : TypeId) (k : Nat) (d a : Option Addr) (dLen dCap sLen sCap : Nat) (hu : P.underlying dT = some (.slice elem)) (hs : (P.info? elem).map (·.size) = some k) (hn : Nat.min sLen dLen = 0) :
    (Builtin.copy_ #[dT, sT] ty #[.slice d dLen dCap, .slice a sLen sCap]).run P w = .ok (goInt 0) w := by
  cases hq : P.info? elem with
  | none => simp [hq] at hs
  | some i =>
    have hl : ∀ (x : Addr), (loadCells x 0).run P w = .ok #[] w := fun x => by simpa using run_loadCells_list (P := P) w x [] (by simp)
    cases d <;> cases a <;> simp [Builtin.copy_, run_underlying hu, Builtin.lenOf, Builtin.firstCells, sizeOf, typeInfo, hq, hn, storeCells, hl]
end
end Go
namespace Go.Proofs.YtjkoppdddaknlaaGreatDoor
open Go Go.RowKit Go.Proofs

def RowX.gr (r : RowX) : Gr := (r.vals, r.cs, r.f)
def rowC (r : RowX) : List Value := [.slice r.vA r.vals.length r.vc, .int .i64 8, .slice r.hA r.cs.length r.hc, .int .i64 r.f]
theorem rowCells_cons (r : RowX) (l : List RowX) : rowCells (r :: l) = rowC r ++ rowCells l := rfl
theorem rowCells_append (a b : List RowX) : rowCells (a ++ b) = rowCells a ++ rowCells b := by simp [rowCells]
theorem rowCells_one (l : List RowX) : ∀ v ∈ rowCells l, v.oneCell' = true := by
  intro v hv
  unfold rowCells at hv
  obtain ⟨r, _, hr⟩ := List.mem_flatMap.1 hv
  simp only [List.mem_cons, List.not_mem_nil, or_false] at hr
  rcases hr with rfl | rfl | rfl | rfl <;> rfl
theorem rowCells_set : ∀ (l : List RowX) (i : Nat) (r : RowX), i < l.length → rowCells (l.set i r) = ((((rowCells l).set (i * 4) (.slice r.vA r.vals.length r.vc)).set (i * 4 + 1) (.int .i64 8)).set (i * 4 + 2) (.slice r.hA r.cs.length r.hc)).set (i * 4 + 3) (.int .i64 r.f)
  | x :: l, 0, r, _ => rfl
  | x :: l, i + 1, r, h => by
    have ih := rowCells_set l i r (by simpa using h)
    rw [List.set_cons_succ, rowCells_cons, rowCells_cons, ih]
    have e : ∀ (t : List Value) (j : Nat) (u : Value), (rowC x ++ t).set ((i + 1) * 4 + j) u = rowC x ++ t.set (i * 4 + j) u := fun t j u => by
      rw [List.set_append_right _ _ (by simp [rowC]; omega)]
      congr 2
      simp [rowC]; omega
    have e0 := e (rowCells l) 0 (.slice r.vA r.vals.length r.vc)
    simp only [Nat.add_zero] at e0
    rw [e0, e, e, e]
theorem rowCells_setH (l : List RowX) (i : Nat) (r : RowX) (hr : l[i]? = some r) (cs : List (Int × Int)) (hA : Option Addr) (hc : Nat) :
    rowCells (l.set i { r with cs := cs, hA := hA, hc := hc }) = ((rowCells l).set (i * 4 + 1) (.int .i64 8)).set (i * 4 + 2) (.slice hA cs.length hc) := by
  have hi := (List.getElem?_eq_some_iff.1 hr).1
  rw [rowCells_set l i _ hi]
  have g : ∀ j, j < 4 → (rowCells l)[i * 4 + j]? = _ := fun j hj => flat_get _ 4 (fun _ => rfl) l i j hj r hr
  have g0 := g 0 (by omega)
  have g3 := g 3 (by omega)
  simp only [Nat.add_zero, List.getElem?_cons_zero, List.getElem?_cons_succ] at g0 g3
  have e0 : (rowCells l).set (i * 4) (.slice r.vA r.vals.length r.vc) = rowCells l := by
    apply List.ext_getElem?
    intro j
    rw [List.getElem?_set]
    split
    · rename_i h; subst h; rw [g0]; split
      · rfl
      · rename_i h2; exact absurd (List.getElem?_eq_some_iff.1 g0).1 h2
    · rfl
  simp only
  rw [e0]
  apply List.ext_getElem?
  intro j
  rw [List.getElem?_set]
  split
  · rename_i h
    subst h
    split
    · rw [List.getElem?_set_ne (by omega), List.getElem?_set_ne (by omega), g3]
    · rename_i h2
      have := (List.getElem?_eq_some_iff.1 g3).1
      simp at h2
      omega
  · rfl
theorem rowCells_setF (l : List RowX) (i : Nat) (r : RowX) (hr : l[i]? = some r) (f : Int) :
    rowCells (l.set i { r with f := f }) = (rowCells l).set (i * 4 + 3) (.int .i64 f) := by
  have hi := (List.getElem?_eq_some_iff.1 hr).1
  rw [rowCells_set l i _ hi]
  have g : ∀ j, j < 4 → (rowCells l)[i * 4 + j]? = _ := fun j hj => flat_get _ 4 (fun _ => rfl) l i j hj r hr
  have g0 := g 0 (by omega)
  have g1 := g 1 (by omega)
  have g2 := g 2 (by omega)
  simp only [Nat.add_zero, List.getElem?_cons_zero, List.getElem?_cons_succ] at g0 g1 g2
  have e : ∀ (t : List Value) (j : Nat) (u : Value), t[j]? = some u → t.set j u = t := fun t j u h => by
    apply List.ext_getElem?
    intro q
    rw [List.getElem?_set]
    split
    · rename_i h1; subst h1; rw [h]; split
      · rfl
      · rename_i h2; exact absurd (List.getElem?_eq_some_iff.1 h).1 h2
    · rfl
  simp only
  rw [e _ _ _ g0, e _ _ _ g1, e _ _ _ g2]
theorem own_cell {w : World} {base g n cap k : Nat} {e : TypeId} {xs : List Value} (h : w.ownsRow base e k (.slice (some ⟨g, 0, none⟩) n cap) n xs) (j : Nat) (u : Value) : (w.setCell ⟨g, j, none⟩ u).ownsRow base e k (.slice (some ⟨g, 0, none⟩) n cap) n (xs.set j u) := by
  refine ⟨by rw [List.length_set]; exact h.1, ?_⟩
  rcases h.2 with ⟨h0, _⟩ | ⟨g', cap', cur, hv, hb, hh, h1, h2, h3, h4⟩
  · cases h0
  · simp only [Value.slice.injEq, Option.some.injEq, Addr.mk.injEq] at hv
    obtain ⟨⟨rfl, _⟩, _, rfl⟩ := hv
    refine .inr ⟨g, cap, cur.setIfInBounds j u, rfl, hb, ?_, h1, h2, by simpa using h3, ?_⟩
    · simp [World.setCell, Array.getElem?_modify, hh]
    · simp only [Array.toList_setIfInBounds]
      rw [List.take_set, h4]
/-- what a row names is readable, and lies apart from the rows' block -/
structure RowP (w : World) (base : Nat) (v : Value) (r : RowX) : Prop where
  vals : Rd w base w.heap.size 1 r.vA r.vals.length (strC r.vals)
  cnts : Rd w base w.heap.size 2 r.hA r.cs.length (cells2 r.cs)
  v1 : ∀ b o, r.vA = some ⟨b, o, none⟩ → 0 < r.vals.length → some b ≠ v.ownBlock
  h1 : ∀ b o, r.hA = some ⟨b, o, none⟩ → 0 < r.cs.length → some b ≠ v.ownBlock
/-- rows of one's own -/
def RowW (w : World) (base : Nat) (v : Value) (L : List RowX) : Prop := w.ownsRow base 64 4 v L.length (rowCells L) ∧ ∀ r ∈ L, RowP w base v r
theorem rd_keep {w w' : World} {may : Nat → Prop} {L B k n : Nat} {A : Option Addr} {xs : List Value} (h : Rd w L w.heap.size k A n xs) (hf : Fr may w w') (hm : ∀ b o, A = some ⟨b, o, none⟩ → 0 < n → ¬ may b) : Rd w' L w'.heap.size k A n xs := by
  refine ⟨h.1, fun hp => ?_⟩
  obtain ⟨b, o, e, hL, hb, hc⟩ := h.2 hp
  refine ⟨b, o, e, hL, Nat.lt_of_lt_of_le hb hf.size, fun j u hu => ?_⟩
  rw [← hc j u hu]
  exact World.cell?_of_block (hf.block b hb (hm b o e hp))
theorem RowP.fr {w w' : World} {base : Nat} {v : Value} {r : RowX} (h : RowP w base v r) {may : Nat → Prop} (hf : Fr may w w') (hm : ∀ b, base ≤ b → b < w.heap.size → some b ≠ v.ownBlock → ¬ may b) : RowP w' base v r := by
  refine ⟨rd_keep (B := 0) h.vals hf (fun b o e hp => ?_), rd_keep (B := 0) h.cnts hf (fun b o e hp => ?_), h.v1, h.h1⟩
  · obtain ⟨b', o', e', hL, hb, _⟩ := h.vals.2 hp
    rw [e] at e'
    simp only [Option.some.injEq, Addr.mk.injEq, and_true] at e'
    obtain ⟨rfl, _⟩ := e'
    exact hm b hL hb (h.v1 b o e hp)
  · obtain ⟨b', o', e', hL, hb, _⟩ := h.cnts.2 hp
    rw [e] at e'
    simp only [Option.some.injEq, Addr.mk.injEq, and_true] at e'
    obtain ⟨rfl, _⟩ := e'
    exact hm b hL hb (h.h1 b o e hp)
theorem RowP.other {w : World} {base : Nat} {v v' : Value} {r : RowX} (h : RowP w base v r) (hv : ∀ b, b < w.heap.size → some b ≠ v.ownBlock → some b ≠ v'.ownBlock) : RowP w base v' r :=
  ⟨h.vals, h.cnts, fun b o e hp => by
    obtain ⟨b', o', e', hL, hb, _⟩ := h.vals.2 hp
    rw [e] at e'
    simp only [Option.some.injEq, Addr.mk.injEq, and_true] at e'
    obtain ⟨rfl, _⟩ := e'
    exact hv b hb (h.v1 b o e hp), fun b o e hp => by
    obtain ⟨b', o', e', hL, hb, _⟩ := h.cnts.2 hp
    rw [e] at e'
    simp only [Option.some.injEq, Addr.mk.injEq, and_true] at e'
    obtain ⟨rfl, _⟩ := e'
    exact hv b hb (h.h1 b o e hp)⟩
theorem RowW.on {w w' : World} {base : Nat} {v : Value} {L : List RowX} (h : RowW w base v L) (hb : Below w.heap.size w w') : RowW w' base v L := by
  have hf := Fr.of_below hb
  refine ⟨ownsRow_fr h.1 hf (fun i hi hm => by have := (ownsRow_block h.1 hi).2; omega), fun r hr => (h.2 r hr).fr hf (fun b _ hb2 _ hm => by omega)⟩
theorem RowW.rd {w : World} {base n c : Nat} {A : Option Addr} {L : List RowX} (h : RowW w base (.slice A n c) L) (hn : n = L.length) : GrR w A L := by
  subst hn
  exact ⟨(Rd.of_own h.1).more (Nat.zero_le _) (Nat.le_refl _), fun r hr => ⟨(h.2 r hr).vals.more (Nat.zero_le _) (Nat.le_refl _), (h.2 r hr).cnts.more (Nat.zero_le _) (Nat.le_refl _)⟩⟩
theorem ownBlock_eq (g n c : Nat) : (Value.slice (some ⟨g, 0, none⟩) n c).ownBlock = some g := rfl
/-- another row in the place of one -/
theorem RowW.put {w w' : World} {base g cap : Nat} {L : List RowX} {i : Nat} {r : RowX} {n : Nat} (h : RowW w base (.slice (some ⟨g, 0, none⟩) n cap) L) (hn : n = L.length)
    (ho : w'.ownsRow base 64 4 (.slice (some ⟨g, 0, none⟩) n cap) n (rowCells (L.set i r))) (hf : Fr (fun q => q = g) w w') (hr : RowP w' base (.slice (some ⟨g, 0, none⟩) n cap) r) : RowW w' base (.slice (some ⟨g, 0, none⟩) n cap) (L.set i r) := by
  refine ⟨by rw [List.length_set, ← hn]; exact ho, fun x hx => ?_⟩
  rcases List.mem_or_eq_of_mem_set hx with h1 | h1
  · exact (h.2 x h1).fr hf (fun b _ _ hb hm => hb (by rw [ownBlock_eq, hm]))
  · rw [h1]; exact hr
/-- a row of several cells, its whole block -/
theorem own_block {w : World} {base k n : Nat} {e : TypeId} {v : Value} {xs : List Value} (h : w.ownsRow base e k v n xs) (hn : 0 < n) :
    ∃ g cap R, v = .slice (some ⟨g, 0, none⟩) n cap ∧ base ≤ g ∧ w.heap[g]? = some (.cells (xs ++ R).toArray e (0, 0)) ∧ (xs ++ R).length = cap * k ∧ n ≤ cap ∧ cap ≤ maxLen ∧ xs.length = n * k := by
  rcases h.2 with ⟨_, h0⟩ | ⟨g, cap, cur, hv, hb, hh, h1, h2, h3, h4⟩
  · omega
  · have e0 : xs ++ cur.toList.drop (n * k) = cur.toList := by
      rw [← h4, List.take_append_drop]
    refine ⟨g, cap, cur.toList.drop (n * k), hv, hb, ?_, ?_, h1, h2, h.1⟩
    · rw [hh, e0]
    · rw [e0]; simpa using h3
theorem own_of_block {w : World} {base g cap k n : Nat} {e : TypeId} {xs R : List Value} (hb : base ≤ g) (hh : w.heap[g]? = some (.cells (xs ++ R).toArray e (0, 0))) (hl : (xs ++ R).length = cap * k) (hx : xs.length = n * k) (hnc : n ≤ cap) (hc : cap ≤ maxLen) : w.ownsRow base e k (.slice (some ⟨g, 0, none⟩) n cap) n xs := by
  refine ⟨hx, .inr ⟨g, cap, _, rfl, hb, hh, hnc, hc, by simpa using hl, ?_⟩⟩
  simp [← hx]
/-- the rows behind the copy upward and the store -/
theorem ins_cells (L : List RowX) (Z R : List Value) (hZ : Z.length = 4) (i : Nat) (hi : i ≤ L.length) (r : RowX) :
    ((((splice (rowCells L ++ Z ++ R) ((i + 1) * 4) (rowCells (L.drop i))).set (i * 4) (.slice r.vA r.vals.length r.vc)).set (i * 4 + 1) (.int .i64 8)).set (i * 4 + 2) (.slice r.hA r.cs.length r.hc)).set (i * 4 + 3) (.int .i64 r.f) = rowCells (L.take i ++ r :: L.drop i) ++ R := by
  have hla : (rowCells (L.take i)).length = i * 4 := by rw [rowCells_length, List.length_take]; omega
  have hld : (rowCells (L.drop i)).length = (L.length - i) * 4 := by rw [rowCells_length, List.length_drop]
  have hll : (rowCells L).length = L.length * 4 := rowCells_length L
  have eL : rowCells L = rowCells (L.take i) ++ rowCells (L.drop i) := by rw [← rowCells_append, List.take_append_drop]
  obtain ⟨q, hq, hq4⟩ : ∃ q : List Value, splice (rowCells L ++ Z ++ R) ((i + 1) * 4) (rowCells (L.drop i)) = rowCells (L.take i) ++ (q ++ (rowCells (L.drop i) ++ R)) ∧ q.length = 4 := by
    refine ⟨(rowCells (L.drop i) ++ Z ++ R).take 4, ?_, ?_⟩
    · unfold splice
      have d1 : List.drop ((i + 1) * 4 + (rowCells (L.drop i)).length) (rowCells L ++ Z ++ R) = R := by
        rw [hld, List.append_assoc, List.drop_append, List.drop_of_length_le (by rw [hll]; omega), List.nil_append, hll, List.drop_append, List.drop_of_length_le (by omega), List.nil_append, hZ]
        rw [show (i + 1) * 4 + (L.length - i) * 4 - L.length * 4 - 4 = 0 by omega]; rfl
      rw [d1]
      have t1 : List.take ((i + 1) * 4) (rowCells L ++ Z ++ R) = rowCells (L.take i) ++ (rowCells (L.drop i) ++ Z ++ R).take 4 := by
        rw [eL, List.append_assoc, List.append_assoc, List.take_append, hla, List.take_of_length_le (by rw [hla]; omega)]
        rw [show (i + 1) * 4 - i * 4 = 4 by omega]
        simp [List.append_assoc]
      rw [t1, List.append_assoc]
    · rw [List.length_take]; simp [hZ]; omega
  rw [hq]
  have hs : ∀ (t : List Value) (j : Nat) (u : Value), j < 4 → t.length = 4 → (rowCells (L.take i) ++ (t ++ (rowCells (L.drop i) ++ R))).set (i * 4 + j) u = rowCells (L.take i) ++ (t.set j u ++ (rowCells (L.drop i) ++ R)) := fun t j u hj ht => by
    rw [List.set_append_right _ _ (by rw [hla]; omega), hla, show i * 4 + j - i * 4 = j by omega, List.set_append_left _ _ (by omega)]
  have h0 := hs q 0 (.slice r.vA r.vals.length r.vc) (by omega) hq4
  simp only [Nat.add_zero] at h0
  rw [h0, hs _ 1 _ (by omega) (by simpa using hq4), hs _ 2 _ (by omega) (by simpa using hq4), hs _ 3 _ (by omega) (by simpa using hq4)]
  match q, hq4 with
  | [a, b, c, d], _ =>
    rw [rowCells_append, rowCells_cons]
    simp [rowC]
end Go.Proofs.YtjkoppdddaknlaaGreatDoor
