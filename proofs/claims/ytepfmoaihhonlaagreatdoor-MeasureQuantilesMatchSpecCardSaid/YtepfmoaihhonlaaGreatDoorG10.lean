import Derived.Test.YtepfmoaihhonlaaGreatDoorG9
import Derived.Test.YtepfmoaihhonlaaGreatDoorG2
/- Division digit by digit: plain. -/
namespace Go.Proofs.YtepfmoaihhonlaaGreatDoor

theorem kn_le {B y1 y0 u d q r : Nat} (h : q * y1 + r = u) (ht : q * y0 ≤ B * r + d) : q * (y1 * B + y0) ≤ u * B + d := by
  rw [← h, Nat.mul_add, Nat.add_mul, ← Nat.mul_assoc, Nat.mul_comm r B]; omega
theorem kn_gt {B y1 y0 u d q r : Nat} (h : q * y1 + r = u) (ht : B * r + d < q * y0) : u * B + d < q * (y1 * B + y0) := by
  rw [← h, Nat.mul_add, Nat.add_mul, ← Nat.mul_assoc, Nat.mul_comm r B]; omega
theorem kn_first {B y1 y0 u d : Nat} (hy : 0 < y1) (hd : d < B) : (u * B + d) / (y1 * B + y0) ≤ u / y1 := by
  have hB : 0 < B := by omega
  have hyp : 0 < y1 * B + y0 := by have := Nat.mul_pos hy hB; omega
  refine Nat.le_of_lt_succ ((Nat.div_lt_iff_lt_mul hyp).2 ?_)
  have h1 := Nat.lt_mul_div_succ u hy
  have h2 := Nat.mul_le_mul_right B (show u + 1 ≤ y1 * (u / y1 + 1) from h1)
  have h3 : (u / y1).succ * (y1 * B + y0) = y1 * (u / y1 + 1) * B + (u / y1 + 1) * y0 := by
    rw [Nat.mul_add, Nat.mul_comm y1 (u / y1 + 1), Nat.mul_assoc]
  rw [h3]
  rw [Nat.add_mul] at h2
  omega
theorem kn_bound {B y1 y0 u : Nat} (hy : B ≤ 2 * y1) (h0 : y0 < B) (hu : u < y1 * B + y0) : u / y1 ≤ B + 1 := by
  have hy1 : 0 < y1 := by omega
  refine Nat.le_of_lt_succ ((Nat.div_lt_iff_lt_mul hy1).2 ?_)
  have : (B + 1).succ * y1 = y1 * B + 2 * y1 := by rw [Nat.succ_mul, Nat.add_mul, Nat.mul_comm B y1]; omega
  omega
theorem kn_break {B y1 y0 u d q r : Nat} (h : q * y1 + r = u) (hr : B ≤ r) (hq : q ≤ B) (h0 : y0 < B) : q * (y1 * B + y0) ≤ u * B + d := by
  refine kn_le h ?_
  have h1 := Nat.mul_le_mul_right y0 hq
  have h2 := Nat.mul_le_mul_left B (show y0 ≤ r by omega)
  omega
theorem kn_is {N y q : Nat} (hy : 0 < y) (h1 : q * y ≤ N) (h2 : N / y ≤ q) : q = N / y :=
  Nat.le_antisymm ((Nat.le_div_iff_mul_le hy).2 h1) h2
theorem kn_less {N y q : Nat} (hy : 0 < y) (h : N < q * y) : N / y < q := (Nat.div_lt_iff_lt_mul hy).2 h
/-- two digits, one after the other -/
theorem two_digits {u a b B y : Nat} (hy : 0 < y) :
    ((u * B + a) * B + b) / y = (u * B + a) / y * B + ((u * B + a) % y * B + b) / y ∧ ((u * B + a) * B + b) % y = ((u * B + a) % y * B + b) % y := by
  have h1 := Nat.div_add_mod (u * B + a) y
  have e : (u * B + a) * B + b = ((u * B + a) % y * B + b) + (u * B + a) / y * B * y := by
    conv => lhs; rw [← h1]
    rw [Nat.add_mul, Nat.mul_comm y, Nat.mul_assoc, Nat.mul_comm y B, ← Nat.mul_assoc]; omega
  constructor
  · rw [e, Nat.add_mul_div_right _ _ hy]; omega
  · rw [e, Nat.add_mul_mod_self_right]
theorem digit_lt {u a B y : Nat} (hu : u < y) (ha : a < B) : (u * B + a) / y < B := by
  refine (Nat.div_lt_iff_lt_mul (by omega)).2 ?_
  have h1 := Nat.mul_le_mul_right B (show u + 1 ≤ y from hu)
  rw [Nat.add_mul, Nat.mul_comm y B] at h1
  omega
/-- both shifted -/
theorem shifted {N y p : Nat} (hp : 0 < p) : N * p / (y * p) = N / y ∧ N * p % (y * p) = N % y * p :=
  ⟨Nat.mul_div_mul_right _ _ hp, Nat.mul_mod_mul_right _ _ _⟩

theorem drop_two {l : List Nat} {k s t : Nat} (hl : l.length = k + 2) (h1 : l[k]? = some s) (h2 : l[k + 1]? = some t) : l = l.take k ++ [s, t] := by
  conv => lhs; rw [← List.take_append_drop k l]
  congr 1
  have e1 := (List.getElem?_eq_some_iff.1 h1)
  have e2 := (List.getElem?_eq_some_iff.1 h2)
  rw [List.drop_eq_getElem_cons e1.1, List.drop_eq_getElem_cons e2.1, e1.2, e2.2, List.drop_eq_nil_of_le (by omega)]
theorem val_two {B : Nat} {l : List Nat} {k s t : Nat} (hl : l.length = k + 2) (h1 : l[k]? = some s) (h2 : l[k + 1]? = some t) : val B l = val B (l.take k) + B ^ k * (s + B * t) := by
  conv => lhs; rw [drop_two hl h1 h2, val_append]
  have : (l.take k).length = k := by simp; omega
  rw [this]; simp [val]
theorem drop_three {l : List Nat} {k r s t : Nat} (hl : l.length = k + 3) (h0 : l[k]? = some r) (h1 : l[k + 1]? = some s) (h2 : l[k + 2]? = some t) : l = l.take k ++ [r, s, t] := by
  conv => lhs; rw [← List.take_append_drop k l]
  congr 1
  have e0 := (List.getElem?_eq_some_iff.1 h0)
  have e1 := (List.getElem?_eq_some_iff.1 h1)
  have e2 := (List.getElem?_eq_some_iff.1 h2)
  rw [List.drop_eq_getElem_cons e0.1, List.drop_eq_getElem_cons e1.1, List.drop_eq_getElem_cons e2.1, e0.2, e1.2, e2.2, List.drop_eq_nil_of_le (by omega)]
theorem val_three {B : Nat} {l : List Nat} {k r s t : Nat} (hl : l.length = k + 3) (h0 : l[k]? = some r) (h1 : l[k + 1]? = some s) (h2 : l[k + 2]? = some t) : val B l = val B (l.take k) + B ^ k * (r + B * (s + B * t)) := by
  conv => lhs; rw [drop_three hl h0 h1 h2, val_append]
  have : (l.take k).length = k := by simp; omega
  rw [this]; simp [val]
/-- the first guess of a digit is not too small -/
theorem guess_first {B P X' D' a2 a1 a0 T S : Nat} (hX : X' < P) (ha0 : a0 < B) (hT : 0 < T) :
    (X' + P * (a0 + B * (a1 + B * a2))) / (D' + P * (S + B * T)) ≤ (a2 * B + a1) / T := by
  have e1 : X' + P * (a0 + B * (a1 + B * a2)) = (a2 * B + a1) * (P * B) + (X' + P * a0) := by
    rw [Nat.mul_add, ← Nat.mul_assoc P B, Nat.mul_comm (P * B), Nat.mul_comm B a2, Nat.add_comm a1]; omega
  have e2 : D' + P * (S + B * T) = T * (P * B) + (D' + P * S) := by
    rw [Nat.mul_add, ← Nat.mul_assoc P B, Nat.mul_comm (P * B) T]; omega
  rw [e1, e2]
  refine kn_first hT ?_
  have := Nat.mul_le_mul_left P (show a0 + 1 ≤ B from ha0)
  rw [Nat.mul_add] at this
  omega
/-- a guess that is too great for the upper words is too great -/
theorem guess_less {B P X' D' a2 a1 a0 T S q r : Nat} (hX : X' < P) (h : q * T + r = a2 * B + a1) (ht : r * B + a0 < q * S) :
    X' + P * (a0 + B * (a1 + B * a2)) < q * (D' + P * (S + B * T)) := by
  have h1 : (a2 * B + a1) * B + a0 + 1 ≤ q * (T * B + S) := kn_gt (B := B) h (by rw [Nat.mul_comm B r]; exact ht)
  have h2 := Nat.mul_le_mul_left P h1
  have e1 : P * (a0 + B * (a1 + B * a2)) + P = P * ((a2 * B + a1) * B + a0 + 1) := by
    rw [Nat.mul_add P _ 1, Nat.mul_one, Nat.mul_comm (a2 * B + a1) B, Nat.mul_comm a2 B, Nat.add_comm (B * a2) a1, Nat.add_comm (B * (a1 + B * a2)) a0]
  have e2 : q * (D' + P * (S + B * T)) = q * D' + P * (q * (T * B + S)) := by
    rw [Nat.mul_add, Nat.mul_comm B T, Nat.add_comm S, Nat.mul_left_comm]
  rw [e2]; omega

/-- the number of m digits from place j on -/
def win (B : Nat) (l : List Nat) (j : Nat) : Nat → Nat
  | 0 => 0
  | m + 1 => win B l j m + B ^ m * (l[j + m]?.getD 0)
theorem win_succ {B : Nat} {l : List Nat} {j m d : Nat} (h : l[j + m]? = some d) : win B l j (m + 1) = win B l j m + B ^ m * d := by
  show win B l j m + B ^ m * (l[j + m]?.getD 0) = _
  rw [h]; rfl
theorem win_congr {B : Nat} {l l' : List Nat} {j : Nat} : ∀ {m : Nat}, (∀ i, j ≤ i → i < j + m → l[i]? = l'[i]?) → win B l j m = win B l' j m
  | 0, _ => rfl
  | m + 1, h => by
    show win B l j m + B ^ m * (l[j + m]?.getD 0) = win B l' j m + B ^ m * (l'[j + m]?.getD 0)
    rw [win_congr (m := m) (fun i h1 h2 => h i h1 (by omega)), h (j + m) (by omega) (by omega)]
theorem win_lt {B : Nat} (hB : 0 < B) {l : List Nat} (hl : ∀ d ∈ l, d < B) (j : Nat) : ∀ m, win B l j m < B ^ m
  | 0 => by simp [win]
  | m + 1 => by
    have ih := win_lt hB hl j m
    have hd : l[j + m]?.getD 0 < B := by
      cases h : l[j + m]? with
      | none => simpa using hB
      | some d => exact hl d (List.mem_of_getElem? h)
    have h2 := Nat.mul_le_mul_left (B ^ m) (show l[j + m]?.getD 0 + 1 ≤ B from hd)
    show win B l j m + B ^ m * (l[j + m]?.getD 0) < _
    rw [Nat.pow_succ]
    rw [Nat.mul_add] at h2
    omega
theorem win_val {B : Nat} {l : List Nat} {j : Nat} : ∀ {m : Nat}, j + m ≤ l.length → win B l j m = val B ((l.drop j).take m)
  | 0, _ => by simp [win, val]
  | m + 1, h => by
    have hm : j + m < l.length := by omega
    rw [win_succ (List.getElem?_eq_getElem hm), win_val (m := m) (by omega)]
    have e : (l.drop j)[m]? = some l[j + m] := by rw [List.getElem?_drop]; exact List.getElem?_eq_getElem hm
    rw [List.take_add_one, e]
    simp only [Option.toList_some]
    rw [val_snoc]
    have : ((l.drop j).take m).length = m := by simp; omega
    rw [this]
theorem val_win {B : Nat} {l : List Nat} {j m : Nat} (h : j + m ≤ l.length) : val B l = val B (l.take j) + B ^ j * win B l j m + B ^ (j + m) * val B (l.drop (j + m)) := by
  have h1 : (l.take j).length = j := by simp; omega
  have h2 : ((l.drop j).take m).length = m := by simp; omega
  conv => lhs; rw [← List.take_append_drop j l, val_append, ← List.take_append_drop m (l.drop j), val_append]
  rw [h1, h2, win_val h, List.drop_drop, Nat.mul_add, ← Nat.mul_assoc, ← Nat.pow_add]; omega
theorem val_set0 {B : Nat} : ∀ {l : List Nat} {j q : Nat}, l[j]? = some 0 → val B (l.set j q) = val B l + B ^ j * q
  | [], j, q, h => by simp at h
  | d :: r, 0, q, h => by
    have h : d = 0 := by simpa using h
    simp [val, h]; omega
  | d :: r, j + 1, q, h => by
    have ih := val_set0 (l := r) (j := j) (q := q) (B := B) (by simpa using h)
    simp only [List.set_cons_succ, val, ih, Nat.pow_succ, Nat.mul_add]
    rw [Nat.mul_comm (B ^ j) B, Nat.mul_assoc]; omega
/-- taking away q times D: enough, or too much -/
theorem take_enough {X D w v M : Nat} (hD : 0 < D) (h : v + w * D = X + M * 0) (hw : X / D ≤ w) : w = X / D ∧ v = X % D := by
  have h1 : w ≤ X / D := (Nat.le_div_iff_mul_le hD).2 (by omega)
  have h2 : w = X / D := by omega
  refine ⟨h2, ?_⟩
  have := Nat.div_add_mod X D
  rw [h2, Nat.mul_comm] at h
  omega
theorem take_much {X D w v M : Nat} (h : v + w * D = X + M * 1) (hv : v < M) : X < w * D := by omega
/-- giving back: not yet, or now -/
theorem give_now {X D w v v' M : Nat} (hD : 0 < D) (h : v + (w + 1) * D = X + M) (hX : X < (w + 1) * D) (hg : v' + M * 1 = v + D) : w = X / D ∧ v' = X % D := by
  rw [Nat.add_mul] at h hX
  refine take_enough (M := M) hD (by omega) ?_
  refine Nat.le_of_lt_succ ((Nat.div_lt_iff_lt_mul hD).2 ?_)
  rw [Nat.succ_mul]; omega
theorem give_more {X D w v v' M : Nat} (h : v + (w + 1) * D = X + M) (hg : v' + M * 0 = v + D) (hv : v' < M) : v' + w * D = X + M ∧ X < w * D := by
  rw [Nat.add_mul] at h; omega
/-- one digit of the quotient, the number and the quotient so far -/
theorem div_step {B D n j Q : Nat} {x x' q : List Nat} (hDB : D ≤ B ^ n) (hx : ∀ d ∈ x, d < B) (hl : x'.length = x.length) (hj : j + n + 1 ≤ x.length) (hlt : val B x < D * B ^ (j + 1))
    (hsame : ∀ i, i < j ∨ j + (n + 1) ≤ i → x'[i]? = x[i]?) (hQ : Q = win B x j (n + 1) / D) (hR : win B x' j (n + 1) = win B x j (n + 1) % D) (hq : q[j]? = some 0) (hD : 0 < D) :
    val B x' < D * B ^ j ∧ val B x' + D * val B (q.set j Q) = val B x + D * val B q := by
  have e0 : val B (x.drop (j + (n + 1))) = 0 := by
    have h1 := val_win (B := B) (l := x) (j := j) (m := n + 1) (by omega)
    have h2 : D * B ^ (j + 1) ≤ B ^ (j + (n + 1)) := by
      have := Nat.mul_le_mul_right (B ^ (j + 1)) hDB
      rwa [← Nat.pow_add, show n + (j + 1) = j + (n + 1) by omega] at this
    rcases Nat.eq_zero_or_pos (val B (x.drop (j + (n + 1)))) with h | h
    · exact h
    · have h3 := Nat.mul_le_mul_left (B ^ (j + (n + 1))) h
      rw [Nat.mul_one] at h3
      omega
  have et : x'.take j = x.take j := by
    apply List.ext_getElem?
    intro i
    rw [List.getElem?_take, List.getElem?_take]
    split
    · exact hsame i (.inl (by omega))
    · rfl
  have ed : x'.drop (j + (n + 1)) = x.drop (j + (n + 1)) := by
    apply List.ext_getElem?
    intro i
    rw [List.getElem?_drop, List.getElem?_drop]
    exact hsame _ (.inr (by omega))
  have v1 := val_win (B := B) (l := x) (j := j) (m := n + 1) (by omega)
  have v2 := val_win (B := B) (l := x') (j := j) (m := n + 1) (by omega)
  rw [ed, et, e0] at v2
  rw [e0] at v1
  have ht : val B (x.take j) < B ^ j := by
    have := val_lt (B := B) (l := x.take j) (fun d hd => hx d (List.mem_of_mem_take hd))
    have e : (x.take j).length = j := by simp; omega
    rwa [e] at this
  have hm : win B x' j (n + 1) < D := by rw [hR]; exact Nat.mod_lt _ hD
  constructor
  · have := Nat.mul_le_mul_left (B ^ j) (show win B x' j (n + 1) + 1 ≤ D from hm)
    rw [Nat.mul_add, Nat.mul_comm (B ^ j) D] at this
    omega
  · rw [val_set0 hq, v1, v2, Nat.mul_add, hR]
    have h3 := Nat.div_add_mod (win B x j (n + 1)) D
    have h4 : D * (B ^ j * Q) = B ^ j * (D * (win B x j (n + 1) / D)) := by rw [hQ, Nat.mul_left_comm]
    have h5 : B ^ j * win B x j (n + 1) = B ^ j * (D * (win B x j (n + 1) / D)) + B ^ j * (win B x j (n + 1) % D) := by rw [← Nat.mul_add, h3]
    rw [h4, h5]; omega
end Go.Proofs.YtepfmoaihhonlaaGreatDoor

/- The state of a call's own memory: what was there before it is as it was, and the blocks of its own hold what is listed. -/
namespace Go.Proofs.YtepfmoaihhonlaaGreatDoor
open Go Go.RowKit Go.Proofs

/-- since w nothing that was there has turned, and these blocks of the call's own hold these -/
structure St (w w' : World) (bs : List (Nat × Obj)) : Prop where
  below : Below w.heap.size w w'
  box : ∀ (i : Nat) b o, bs[i]? = some (b, o) → w.heap.size ≤ b ∧ w'.heap[b]? = some o

theorem below_next {W X Y : World} (h1 : Below W.heap.size W X) (h2 : Below X.heap.size X Y) : Below W.heap.size W Y := h1.trans (h2.mono h1.size)
section
variable {w w' w'' : World} {bs : List (Nat × Obj)}
theorem St.start (w : World) : St w w [] := ⟨Below.refl _ _, fun i b o h => by simp at h⟩
theorem St.alloc (h : St w w' bs) (o : Obj) (b : Nat) (hb : b = w'.heap.size) : St w (w'.alloc o) (bs ++ [(b, o)]) := by
  refine ⟨h.below.alloc h.below.size _, fun i b' o' hi => ?_⟩
  rw [List.getElem?_append] at hi
  split at hi
  · have := h.box i b' o' hi
    exact ⟨this.1, (Below.heap_alloc _ _ _ (heap_lt this.2)).trans this.2⟩
  · rw [List.getElem?_singleton] at hi
    split at hi
    · have hi' := Option.some.inj hi
      obtain ⟨rfl, rfl⟩ := Prod.mk.inj hi'
      exact ⟨by have := h.below.size; omega, alloc_at _ _ _ hb⟩
    · cases hi
/-- a block that is not listed -/
theorem St.more (h : St w w' bs) (o : Obj) : St w (w'.alloc o) bs :=
  ⟨h.below.alloc h.below.size _, fun i b o hi => ⟨(h.box i b o hi).1, (Below.heap_alloc _ _ _ (heap_lt (h.box i b o hi).2)).trans (h.box i b o hi).2⟩⟩
theorem St.call (h : St w w' bs) (hb : Below w'.heap.size w' w'') : St w w'' bs :=
  ⟨h.below.trans (hb.mono h.below.size), fun i b o hi => ⟨(h.box i b o hi).1, (hb.block b (heap_lt (h.box i b o hi).2)).trans (h.box i b o hi).2⟩⟩
theorem St.fr {may : Nat → Prop} (h : St w w' bs) (hf : Fr may w' w'') (hm : ∀ (i : Nat) b o, bs[i]? = some (b, o) → ¬ may b) (h0 : ∀ i, may i → w.heap.size ≤ i) : St w w'' bs :=
  ⟨h.below.trans (hf.below h.below.size (fun i hi hm' => by have := h0 i hm'; omega)), fun i b o hi => ⟨(h.box i b o hi).1, (hf.block b (heap_lt (h.box i b o hi).2) (hm i b o hi)).trans (h.box i b o hi).2⟩⟩
theorem St.drewN (h : St w w' bs) (n : Nat) : St w (w'.drewN n) bs := ⟨below_drewN h.below n, h.box⟩
theorem St.drew (h : St w w' bs) : St w w'.drew bs := ⟨h.below.drew, h.box⟩
theorem St.set (h : St w w' bs) (i j : Nat) (u : Value) {b : Nat} {cs : Array Value} {t : TypeId} {fz : Nat × Nat} (hi : bs[i]? = some (b, .cells cs t fz)) (hd : ∀ (k : Nat) b' o', bs[k]? = some (b', o') → k ≠ i → b' ≠ b) :
    St w (w'.setCell ⟨b, j, none⟩ u) (bs.set i (b, .cells (cs.setIfInBounds j u) t fz)) := by
  refine ⟨h.below.setCell (h.box i _ _ hi).1 _, fun k b' o' hk => ?_⟩
  rw [List.getElem?_set] at hk
  split at hk
  · rename_i e
    subst e
    split at hk
    · have hi' := Option.some.inj hk
      obtain ⟨rfl, rfl⟩ := Prod.mk.inj hi'
      refine ⟨(h.box _ _ _ hi).1, ?_⟩
      have := (h.box _ _ _ hi).2
      simp [World.setCell, Array.getElem?_modify, this]
    · cases hk
  · rename_i e
    have hx := h.box k b' o' hk
    exact ⟨hx.1, (Below.heap_setCell _ _ _ _ (hd k b' o' hk (fun e' => e e'.symm))).trans hx.2⟩
theorem St.cell (h : St w w' bs) (i j : Nat) {b : Nat} {cs : Array Value} {t : TypeId} {u : Value} (hi : bs[i]? = some (b, .cells cs t (0, 0))) (hj : cs[j]? = some u) : w'.cell? ⟨b, j, none⟩ = some u := by
  rw [cellsAt (h.box i _ _ hi).2, hj]
theorem St.frozen (h : St w w' bs) (i j : Nat) {b : Nat} {cs : Array Value} {t : TypeId} (hi : bs[i]? = some (b, .cells cs t (0, 0))) : w'.frozen? ⟨b, j, none⟩ = false := frozenAt (h.box i _ _ hi).2 j
theorem St.lt (h : St w w' bs) (i : Nat) {b : Nat} {o : Obj} (hi : bs[i]? = some (b, o)) : b < w'.heap.size := heap_lt (h.box i _ _ hi).2
theorem St.at (h : St w w' bs) (i : Nat) {b : Nat} {o : Obj} (hi : bs[i]? = some (b, o)) : w'.heap[b]? = some o := (h.box i _ _ hi).2
theorem St.grown {M : Nat} (h : St w w' bs) (hg : w'.grownBy w'' (some M)) (h0 : w.heap.size ≤ M) (hm : ∀ x ∈ bs, x.1 ≠ M) : St w w'' bs :=
  h.fr (Fr.of_grown hg) (fun i b o hi hb => by have hb : b = M := by simpa using hb
                                               exact hm _ (List.mem_of_getElem? hi) hb) (fun i hi => by have hi : i = M := by simpa using hi
                                                                                                        omega)
theorem St.old (h : St w w' bs) (hb : Below w'.heap.size w' w'') : Below w.heap.size w w'' := (h.call hb).below
theorem Rd.old {k n : Nat} {A : Option Addr} {xs : List Value} (h : Rd w 0 w.heap.size k A n xs) (hb : Below w.heap.size w w') : Rd w' 0 w'.heap.size k A n xs := (h.below hb (Nat.le_refl _)).more (Nat.le_refl _) hb.size
/-- a store into the block that is listed last -/
theorem St.setLast (bs : List (Nat × Obj)) (j : Nat) (u : Value) {b : Nat} {cs : Array Value} {t : TypeId} {fz : Nat × Nat} (h : St w w' (bs ++ [(b, .cells cs t fz)])) (hd : ∀ x ∈ bs, x.1 ≠ b) : St w (w'.setCell ⟨b, j, none⟩ u) (bs ++ [(b, .cells (cs.setIfInBounds j u) t fz)]) := by
  have := h.set bs.length j u (b := b) (cs := cs) (t := t) (fz := fz) (by simp) (fun k b' o' hk hne => by
    rw [List.getElem?_append] at hk
    split at hk
    · exact hd _ (List.mem_of_getElem? hk)
    · rw [List.getElem?_singleton] at hk
      split at hk
      · omega
      · cases hk)
  simpa using this
/-- behind an append to a row that lies behind the listed blocks -/
theorem St.app {base : Nat} {e : TypeId} {k n : Nat} {v : Value} {xs : List Value} (h : St w w' bs) (hown : w'.ownsRow base e k v n xs) (hg : w'.grownBy w'' v.ownBlock) (hb : ∀ x ∈ bs, x.1 < base) (h0 : w.heap.size ≤ base) : St w w'' bs :=
  h.fr (Fr.of_grown hg) (fun i b o hi hm => by have := hb _ (List.mem_of_getElem? hi); have := (ownsRow_block hown hm).1; simp only at *; omega) (fun i hi => by have := (ownsRow_block hown hi).1; omega)
/-- the list, shortened to what is still needed -/
theorem St.pick (h : St w w' bs) (bs' : List (Nat × Obj)) (hs : ∀ x ∈ bs', x ∈ bs) : St w w' bs' :=
  ⟨h.below, fun i b o hi => by
    obtain ⟨j, hj⟩ := List.getElem?_of_mem (hs _ (List.mem_of_getElem? hi))
    exact h.box j b o hj⟩
theorem St.take (h : St w w' bs) (n : Nat) : St w w' (bs.take n) :=
  h.pick _ (fun _ hx => List.mem_of_mem_take hx)
end
end Go.Proofs.YtepfmoaihhonlaaGreatDoor
