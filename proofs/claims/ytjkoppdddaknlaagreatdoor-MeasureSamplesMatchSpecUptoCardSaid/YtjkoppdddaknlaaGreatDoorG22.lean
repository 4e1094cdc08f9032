import Derived.Test.YtjkoppdddaknlaaGreatDoorShelf
import Derived.Test.YtjkoppdddaknlaaGreatDoorG4
import Derived.Maps.Own
import Derived.Maps.OwnOps
import Derived.Maps.OwnSet
import Derived.Maps.RangeWalk
import Derived.Maps.AppendAt
import Derived.Test.YtjkoppdddaknlaaGreatDoorRWorst
import Derived.Test.YtjkoppdddaknlaaGreatDoorBusy
import Derived.Test.YtjkoppdddaknlaaGreatDoorSmpPln
/- Maps of integers to integers of one's own (map[int]int): what they hold, and loops over them. -/
namespace Go.Proofs.YtjkoppdddaknlaaGreatDoor
open Go Go.RowKit Go.Proofs Go.Maps

theorem lawZ : Keyed Tryz.prog 3 := int_keyed Tryz.underlying3
/-- block m is a map[int]int of at most n entries that holds f, with keys from -B to B -/
def MapZ (w : World) (m n : Nat) (B : Int) (f : Int → Int) : Prop :=
  ∃ D : DataW Unit, w.ownsMap Tryz.prog 3 (plainElem Tryz.prog 3) m n D ∧ (∀ x, (Lit.int .i64 x).wf = true → D.atKey (.int .i64 x) (.lit (.int .i64 0)) = .lit (.int .i64 (f x))) ∧ ∀ x, has D (.int .i64 x) = true → -B ≤ x ∧ x ≤ B
theorem wfZ {x : Int} (h0 : -9223372036854775808 ≤ x) (h1 : x ≤ 9223372036854775807) : (Lit.int .i64 x).wf = true := by
  simp [Lit.wf, IntKind.min, IntKind.max, IntKind.signed, IntKind.bits]; omega
theorem MapZ.mono {w : World} {m n n' : Nat} {B B' : Int} {f : Int → Int} (h : MapZ w m n B f) (hn : n ≤ n') (hB : B ≤ B') : MapZ w m n' B' f := by
  obtain ⟨D, h1, h2, h3⟩ := h
  exact ⟨D, h1.mono hn, h2, fun x hx => by have := h3 x hx; omega⟩
theorem MapZ.fr {may : Nat → Prop} {w w' : World} {m n : Nat} {B : Int} {f : Int → Int} (h : MapZ w m n B f) (hf : Fr may w w') (hm : ¬ may m) : MapZ w' m n B f := by
  obtain ⟨D, h1, h2⟩ := h
  have hbl := h1.lt
  obtain ⟨es, clock, h3, h4⟩ := h1
  exact ⟨D, ⟨es, clock, (hf.block m hbl hm).trans h3, h4⟩, h2⟩
theorem MapZ.lt {w : World} {m n : Nat} {B : Int} {f : Int → Int} (h : MapZ w m n B f) : m < w.heap.size := by
  obtain ⟨D, h1, _⟩ := h; exact h1.lt
theorem MapZ.on {w w' : World} {m n : Nat} {B : Int} {f : Int → Int} (h : MapZ w m n B f) (hb : Below w.heap.size w w') : MapZ w' m n B f :=
  h.fr (Fr.of_below hb) (by have := h.lt; omega)
/-- a loop over such a map: iterator r, which keys have come, how many entries are to come -/
def RgZ (w : World) (m r n : Nat) (B : Int) (f : Int → Int) (done : Int → Bool) (cnt : Nat) : Prop :=
  ∃ (D : DataW Unit) (left : Lit → Bool), w.ranges Tryz.prog 3 (plainElem Tryz.prog 3) m r n D left cnt ∧ (∀ x, (Lit.int .i64 x).wf = true → D.atKey (.int .i64 x) (.lit (.int .i64 0)) = .lit (.int .i64 (f x))) ∧ (∀ x, has D (.int .i64 x) = true → -B ≤ x ∧ x ≤ B) ∧ ∀ x, left (.int .i64 x) = (has D (.int .i64 x) && !done x)
theorem RgZ.fr {may : Nat → Prop} {w w' : World} {m r n : Nat} {B : Int} {f : Int → Int} {done : Int → Bool} {cnt : Nat} (h : RgZ w m r n B f done cnt) (hf : Fr may w w') (hm : ¬ may m) (hr : ¬ may r) : RgZ w' m r n B f done cnt := by
  obtain ⟨D, left, h1, h2⟩ := h
  refine ⟨D, left, ?_, h2⟩
  have hrl := h1.lt
  have hbl := h1.owns.lt
  obtain ⟨es, clock, since, seen, c0, g1, g2, g3, g4, g5, g6⟩ := h1
  exact ⟨es, clock, since, seen, c0, (hf.block m hbl hm).trans g1, g2, g3, g4, (hf.block r hrl hr).trans g5, g6⟩
theorem RgZ.owns {w : World} {m r n : Nat} {B : Int} {f : Int → Int} {done : Int → Bool} {cnt : Nat} (h : RgZ w m r n B f done cnt) : MapZ w m n B f := by
  obtain ⟨D, left, h1, h2, h3, _⟩ := h
  exact ⟨D, h1.owns, h2, h3⟩
theorem RgZ.lt {w : World} {m r n : Nat} {B : Int} {f : Int → Int} {done : Int → Bool} {cnt : Nat} (h : RgZ w m r n B f done cnt) : m < w.heap.size ∧ r < w.heap.size ∧ r ≠ m := by
  obtain ⟨D, left, h1, _⟩ := h
  exact ⟨h1.owns.lt, h1.lt, h1.ne⟩
theorem RgZ.left {w : World} {m r n : Nat} {B : Int} {f : Int → Int} {done : Int → Bool} {cnt : Nat} (h : RgZ w m r n B f done cnt) : w.rangeLeft m r = cnt := by
  obtain ⟨D, left, h1, _⟩ := h
  exact h1.left_eq
section
variable {w : World} {ops : Array Oper} {rest : List Oper} {o : Oper} {a : Act} {Q : Exit → Act → World → Prop}
end
end Go.Proofs.YtjkoppdddaknlaaGreatDoor

/- Maps of integers to values of any type, of one's own: what they hold. -/
namespace Go.Proofs.YtjkoppdddaknlaaGreatDoor
open Go Go.RowKit Go.Proofs Go.Maps

/-- an element as it stands -/
def rawR (v : Value) : Option (DataW Value × List MemPlace) := some (.held v, [])
/-- block m is a map with integers as keys, of at most n entries, that holds f -/
def MapV (w : World) (m n : Nat) (f : Int → Option Value) : Prop :=
  ∃ D : DataW Value, w.ownsMap Tryz.prog 3 rawR m n D ∧ ∀ x, (Lit.int .i64 x).wf = true → has D (.int .i64 x) = (f x).isSome ∧ ∀ z, D.atKey (.int .i64 x) (.held z) = .held ((f x).getD z)
theorem held_inj {H : Type} {a b : H} (h : (DataW.held a : DataW H) = .held b) : a = b := by injection h
/-- f with v at x -/
def updV (f : Int → Option Value) (x : Int) (v : Value) : Int → Option Value := fun y => if y = x then some v else f y
theorem updV_same (f : Int → Option Value) (x : Int) (v : Value) : updV f x v x = some v := by unfold updV; rw [if_pos rfl]
theorem updV_other (f : Int → Option Value) {x y : Int} (v : Value) (h : y ≠ x) : updV f x v y = f y := by unfold updV; rw [if_neg h]
theorem mapV_made (w : World) : MapV (w.alloc (.map #[] 0)) w.heap.size 0 (fun _ => none) :=
  ⟨.map [], World.ownsMap_made _ _ _ _, fun _x _ => ⟨rfl, fun _ => rfl⟩⟩
theorem MapV.mono {w : World} {m n n' : Nat} {f : Int → Option Value} (h : MapV w m n f) (hn : n ≤ n') : MapV w m n' f := by
  obtain ⟨D, h1, h2⟩ := h
  exact ⟨D, h1.mono hn, h2⟩
theorem MapV.fr {may : Nat → Prop} {w w' : World} {m n : Nat} {f : Int → Option Value} (h : MapV w m n f) (hf : Fr may w w') (hm : ¬ may m) : MapV w' m n f := by
  obtain ⟨D, h1, h2⟩ := h
  have hbl := h1.lt
  obtain ⟨es, clock, h3, h4⟩ := h1
  exact ⟨D, ⟨es, clock, (hf.block m hbl hm).trans h3, h4⟩, h2⟩
theorem MapV.lt {w : World} {m n : Nat} {f : Int → Option Value} (h : MapV w m n f) : m < w.heap.size := by
  obtain ⟨D, h1, _⟩ := h; exact h1.lt
theorem MapV.on {w w' : World} {m n : Nat} {f : Int → Option Value} (h : MapV w m n f) (hb : Below w.heap.size w w') : MapV w' m n f :=
  h.fr (Fr.of_below hb) (by have := h.lt; omega)
theorem MapV.block {w : World} {m n : Nat} {f : Int → Option Value} (h : MapV w m n f) : ∃ es clock, w.heap[m]? = some (.map es clock) := by
  obtain ⟨D, ⟨es, clock, h1, _⟩, _⟩ := h
  exact ⟨es, clock, h1⟩
theorem isMapV {w : World} {m n : Nat} {D : DataW Value} {R : Value → Option (DataW Value × List MemPlace)} {P : Program} {k : TypeId} (h : w.ownsMap P k R m n D) : IsMap D := by
  obtain ⟨es, clock, _, _, _, hD⟩ := h; exact ⟨_, hD⟩
section
variable {t e : TypeId} (ht : Tryz.prog.underlying t = some (.map 3 e))
/-- the world behind 'm[x] = v' -/
noncomputable def putV (t : TypeId) (m : Nat) (x : Int) (v : Value) (w : World) : World :=
  match (Instr.mapUpdate t (.map (some m)) (.int .i64 x) v).run Tryz.prog w with | .ok _ w' => w' | _ => w
include ht
theorem putV_run {w : World} {m n : Nat} {f : Int → Option Value} (h : MapV w m n f) (hn : n < 10000000000000) (x : Int) (v : Value) (h0 : -9223372036854775808 ≤ x) (h1 : x ≤ 9223372036854775807) :
    (Instr.mapUpdate t (.map (some m)) (.int .i64 x) v).run Tryz.prog w = .ok () (putV t m x v w) ∧ MapV (putV t m x v w) m (n + 1) (updV f x v) ∧ w.grownBy (putV t m x v w) (some m) := by
  obtain ⟨D, hown, hD⟩ := h
  obtain ⟨w', hrun, g1, g2⟩ := hown.update (val := v) (d := .held v) (ps := []) lawZ ht (by unfold maxLen; omega) (keyOf_int_mk Tryz.underlying3 (wfZ h0 h1)) rfl
  have e : putV t m x v w = w' := by unfold putV; rw [hrun]
  rw [e]
  have hm := isMapV hown
  refine ⟨hrun, ⟨_, g1, fun y hy => ?_⟩, g2⟩
  by_cases e : y = x
  · subst e
    rw [updV_same]
    exact ⟨has_put_same (k := .int .i64 y) hm trivial _, fun z => atKey_put_same (k := .int .i64 y) hm trivial _ _⟩
  · rw [updV_other _ _ e]
    obtain ⟨q1, q2⟩ := hD y hy
    exact ⟨by rw [has_put_other (by simpa using e), q1], fun z => by rw [atKey_put_other (by simpa using e), q2]⟩
theorem lookV_run {w : World} {m n : Nat} {f : Int → Option Value} (h : MapV w m n f) (x : Int) (h0 : -9223372036854775808 ≤ x) (h1 : x ≤ 9223372036854775807) {z : Value} (hz : (zeroValue e).run Tryz.prog w = .ok z w) :
    (Instr.lookup t (.map (some m)) (.int .i64 x) false).run Tryz.prog w = .ok ((f x).getD z) w := by
  obtain ⟨D, hown, hD⟩ := h
  obtain ⟨c, ps, hrun, hv⟩ := hown.lookup (zd := .held z) (zp := []) lawZ ht hz rfl (keyOf_int_mk Tryz.underlying3 (wfZ h0 h1))
  have h2 : (DataW.held c : DataW Value) = _ := congrArg Prod.fst (Option.some.inj hv)
  have : c = (f x).getD z := held_inj (h2.trans ((hD x (wfZ h0 h1)).2 z))
  rw [hrun, this]
end
end Go.Proofs.YtjkoppdddaknlaaGreatDoor

/- The reference's Busy: the list of times, plain; rows of numbers. -/
namespace Go.Proofs.YtjkoppdddaknlaaGreatDoor
open Go Go.RowKit Go.Proofs Go.Maps

/-- a time more, if it is new -/
def addT (L : List Nat) (t : Nat) : List Nat := if t ∈ L then L else L ++ [t]
theorem addT_mem {L : List Nat} {t x : Nat} : x ∈ addT L t ↔ x ∈ L ∨ x = t := by
  unfold addT
  split
  · rename_i h
    constructor
    · exact .inl
    · rintro (h1 | rfl)
      · exact h1
      · exact h
  · simp
theorem addT_nodup {L : List Nat} {t : Nat} (h : L.Nodup) : (addT L t).Nodup := by
  unfold addT
  split
  · exact h
  · rename_i hn
    rw [List.nodup_append]
    refine ⟨h, by simp, fun a ha b hb => ?_⟩
    simp only [List.mem_singleton] at hb
    subst hb
    intro e; subst e; exact hn ha
theorem addT_len (L : List Nat) (t : Nat) : (addT L t).length ≤ L.length + 1 := by
  unfold addT; split <;> simp
/-- the times of the first samples, each once -/
def tmN (l : List Smp) : Nat → List Nat
  | 0 => []
  | i + 1 => match l[i]? with
    | none => tmN l i
    | some s => addT (addT (tmN l i) s.a.toNat) (s.a + s.d).toNat
theorem tmN_succ {l : List Smp} {i : Nat} {s : Smp} (h : l[i]? = some s) : tmN l (i + 1) = addT (addT (tmN l i) s.a.toNat) (s.a + s.d).toNat := by rw [tmN]; simp only [h]
theorem tmN_nodup (l : List Smp) : ∀ i, (tmN l i).Nodup
  | 0 => List.nodup_nil
  | i + 1 => by
    rw [tmN]
    split
    · exact tmN_nodup l i
    · exact addT_nodup (addT_nodup (tmN_nodup l i))
theorem tmN_len (l : List Smp) : ∀ i, (tmN l i).length ≤ 2 * i
  | 0 => Nat.le_refl _
  | i + 1 => by
    have ih := tmN_len l i
    rw [tmN]
    split
    · omega
    · rename_i s _
      have h1 := addT_len (addT (tmN l i) s.a.toNat) (s.a + s.d).toNat
      have h2 := addT_len (tmN l i) s.a.toNat
      omega
theorem tmN_mem {l : List Smp} (h0 : ∀ s ∈ l, 0 ≤ s.a ∧ 0 ≤ s.d) : ∀ i, i ≤ l.length → ∀ t : Int, (t ∈ tms (pts (l.take i)) ↔ ∃ x ∈ tmN l i, t = (x : Int))
  | 0, _, t => by simp [pts, tms, tmN]
  | i + 1, hi, t => by
    obtain ⟨s, hs⟩ : ∃ s, l[i]? = some s := ⟨_, List.getElem?_eq_getElem (by omega)⟩
    have ih := tmN_mem h0 i (by omega) t
    have hb := h0 s (List.mem_of_getElem? hs)
    rw [pts_take l i s hs, tms_snoc, List.mem_append, ih, tmN_succ hs]
    constructor
    · rintro (⟨x, hx, e⟩ | h)
      · exact ⟨x, addT_mem.2 (.inl (addT_mem.2 (.inl hx))), e⟩
      · simp only [List.mem_cons, List.not_mem_nil, or_false] at h
        rcases h with h | h
        · exact ⟨s.a.toNat, addT_mem.2 (.inl (addT_mem.2 (.inr rfl))), by omega⟩
        · exact ⟨(s.a + s.d).toNat, addT_mem.2 (.inr rfl), by omega⟩
    · rintro ⟨x, hx, e⟩
      rcases addT_mem.1 hx with hx | rfl
      · rcases addT_mem.1 hx with hx | rfl
        · exact .inl ⟨x, hx, e⟩
        · exact .inr (by simp only [List.mem_cons]; left; omega)
      · exact .inr (by simp only [List.mem_cons]; right; left; omega)
theorem tmN_bd {l : List Smp} (h0 : ∀ s ∈ l, 0 ≤ s.a ∧ s.a ≤ 1000000000000 ∧ 0 ≤ s.d ∧ s.d ≤ 1000000000000) : ∀ i, ∀ x ∈ tmN l i, x ≤ 2000000000000
  | 0, x, hx => by simp [tmN] at hx
  | i + 1, x, hx => by
    rw [tmN] at hx
    split at hx
    · exact tmN_bd h0 i x hx
    · rename_i s hs
      have hb := h0 s (List.mem_of_getElem? hs)
      rcases addT_mem.1 hx with hx | rfl
      · rcases addT_mem.1 hx with hx | rfl
        · exact tmN_bd h0 i x hx
        · omega
      · omega
/-- the map of the times that are there -/
def hadF (L : List Nat) : Int → Option Value := fun t => if ∃ x ∈ L, t = (x : Int) then some (.bool true) else none
theorem hadF_at (L : List Nat) (x : Nat) : (hadF L (x : Int)).getD (.bool false) = .bool (decide (x ∈ L)) := by
  unfold hadF
  by_cases h : x ∈ L
  · rw [if_pos ⟨x, h, rfl⟩, decide_eq_true h]; rfl
  · rw [if_neg (by rintro ⟨y, hy, e⟩; have : x = y := by omega
                   subst this; exact h hy), decide_eq_false h]; rfl
theorem hadF_put (L : List Nat) (x : Nat) (h : x ∉ L) : updV (hadF L) (x : Int) (.bool true) = hadF (addT L x) := by
  funext t
  unfold addT
  rw [if_neg h]
  unfold updV hadF
  by_cases e : t = (x : Int)
  · rw [if_pos e, if_pos ⟨x, by simp, e⟩]
  · rw [if_neg e]
    have : (∃ y ∈ L ++ [x], t = (y : Int)) ↔ ∃ y ∈ L, t = (y : Int) := by
      constructor
      · rintro ⟨y, hy, e2⟩
        rw [List.mem_append, List.mem_singleton] at hy
        rcases hy with hy | rfl
        · exact ⟨y, hy, e2⟩
        · exact absurd e2 e
      · rintro ⟨y, hy, e2⟩
        exact ⟨y, List.mem_append.2 (.inl hy), e2⟩
    by_cases h2 : ∃ y ∈ L, t = (y : Int)
    · rw [if_pos h2, if_pos (this.2 h2)]
    · rw [if_neg h2, if_neg (fun h3 => h2 (this.1 h3))]
theorem hadF_nil : hadF [] = fun _ => none := by
  funext t; unfold hadF; rw [if_neg (by rintro ⟨x, hx, _⟩; cases hx)]
/-- rows of numbers of one's own, as words of a row -/
theorem izC_ints (l : List Nat) : izC l = ints (l.map fun (x : Nat) => (x : Int)) := by simp [izC, ints]
theorem rowI_of_own {w : World} {base g n cap : Nat} {l : List Nat} (h : w.ownsRow base 3 1 (.slice (some ⟨g, 0, none⟩) n cap) n (izC l)) : RowI w g l := by
  have hl : l.length = n := by have := h.1; simpa [izC] using this
  rcases h.2 with ⟨hv, _⟩ | ⟨g', cap', cur, hv, hb, hh, h1, h2, h3, h4⟩
  · cases hv
  · simp only [Value.slice.injEq, Option.some.injEq, Addr.mk.injEq] at hv
    obtain ⟨⟨rfl, _⟩, _, rfl⟩ := hv
    exact ⟨cur, hh, by omega, by rw [hl]; simpa using h4⟩
theorem und_snoc (l : List (Int × Int)) (s : Int × Int) (t : Int) : und (l ++ [s]) t = und l t + if s.1 ≤ t ∧ t < s.1 + s.2 then 1 else 0 := by
  unfold und
  rw [List.countP_append]
  by_cases h : s.1 ≤ t ∧ t < s.1 + s.2
  · simp [h.1, h.2]
  · rw [if_neg h]
    have : (decide (s.1 ≤ t) && decide (t < s.1 + s.2)) = false := by
      rcases Classical.em (s.1 ≤ t) with h1 | h1
      · have : ¬ t < s.1 + s.2 := fun h2 => h ⟨h1, h2⟩
        simp [this]
      · simp [h1]
    simp [this]
theorem und_bd (l : List (Int × Int)) (t : Int) : 0 ≤ und l t ∧ und l t ≤ l.length := by
  unfold und
  have := List.countP_le_length (p := fun s : Int × Int => decide (s.1 ≤ t) && decide (t < s.1 + s.2)) (l := l)
  omega
/-- sorted numbers, each once, rise -/
theorem rise_of {l : List Nat} (hn : l.Nodup) (hs : SrtOn (fun x y : Nat => x < y) l 0 l.length) : (l.map fun (x : Nat) => (x : Int)).Pairwise (· < ·) := by
  rw [List.pairwise_map, List.pairwise_iff_getElem]
  intro i j hi hj hij
  have := hs i j _ _ (Nat.zero_le _) hij hj (List.getElem?_eq_getElem hi) (List.getElem?_eq_getElem hj)
  omega
theorem nodup_ne {l : List Nat} (h : l.Nodup) {p q x y : Nat} (hpq : p ≠ q) (hx : l[p]? = some x) (hy : l[q]? = some y) : x ≠ y := by
  obtain ⟨h1, rfl⟩ := List.getElem?_eq_some_iff.1 hx
  obtain ⟨h2, rfl⟩ := List.getElem?_eq_some_iff.1 hy
  intro e
  exact hpq ((List.getElem_inj h).1 e)
/-- what Busy returns in both packages -/
def BPostR (n : Nat) (l : List Smp) (w : World) (e : Ending) (w' : World) : Prop :=
  ∃ A' c ts, e = .returned (.tuple #[.slice A' (chg (stp (pts l)) ts).length c, .int .i64 0]) ∧ ts.Pairwise (· < ·) ∧ (∀ t, t ∈ ts ↔ t ∈ tms (pts l)) ∧ ts.length ≤ 2 * n ∧
    Rd w' w.heap.size w'.heap.size 2 A' (chg (stp (pts l)) ts).length (cells2 (chg (stp (pts l)) ts)) ∧ Below w.heap.size w w' ∧ TyB w' 76 A' (chg (stp (pts l)) ts).length
theorem zeroBo (w : World) : (zeroValue 4).run Tryz.prog w = .ok (.bool false) w := by kernel_rfl
end Go.Proofs.YtjkoppdddaknlaaGreatDoor
