import Derived.Test.YtnapdhfkgfjjfaaGreatDoorG31
import Derived.Test.YtnapdhfkgfjjfaaGreatDoorG28
import Derived.Test.YtnapdhfkgfjjfaaGreatDoorG0
/- Package judge: fractions as rational numbers: plus, opposite, times, over, lowest, compare, ratio. -/
namespace Go.Proofs.YtnapdhfkgfjjfaaGreatDoor
open Go Go.RowKit Go.Proofs

/-- a value that is a fraction with the value q, its parts below W64^n -/
def JQ (w : World) (v : Value) (q : Rat) (n : Nat) : Prop := ∃ b x y, JF w v b x y ∧ mkRat (sg b x) y = q ∧ x < W64 ^ n ∧ y < W64 ^ n ∧ 0 < y
theorem JQ.on {w w' : World} {v : Value} {q : Rat} {n : Nat} (h : JQ w v q n) (hb : Below w.heap.size w w') : JQ w' v q n := by
  obtain ⟨b, x, y, h1, h2⟩ := h
  exact ⟨b, x, y, h1.on hb, h2⟩
theorem W64_mono {x n m : Nat} (h : x < W64 ^ n) (hm : n ≤ m) : x < W64 ^ m := Nat.lt_of_lt_of_le h (Nat.pow_le_pow_right (by unfold W64; omega) hm)
theorem JQ.mono {w : World} {v : Value} {q : Rat} {n m : Nat} (h : JQ w v q n) (hm : n ≤ m) : JQ w v q m := by
  obtain ⟨b, x, y, h1, h2, h3, h4, h5⟩ := h
  exact ⟨b, x, y, h1, h2, W64_mono h3 hm, W64_mono h4 hm, h5⟩
theorem JQ.of {w : World} {v : Value} {q : Rat} {n : Nat} (h : JF w v (frS q) (frN q) q.den) (h1 : frN q < W64 ^ n) (h2 : q.den < W64 ^ n) : JQ w v q n := ⟨_, _, _, h, fr_eq q, h1, h2, q.den_pos⟩
theorem W64_mul {a b s t : Nat} (h1 : a < W64 ^ s) (h2 : b < W64 ^ t) : a * b < W64 ^ (s + t) := by rw [Nat.pow_add]; exact Nat.mul_lt_mul'' h1 h2
theorem jCompareQ (n m : Nat) (u v : Value) (p q : Rat) (w : World) (hn : n ≤ 200000) (hm : m ≤ 200000) (hu : JQ w u p n) (hv : JQ w v q m) : Calls Tryz.prog 45 #[u, v] w fun e w' => e = .returned (.int .i64 (ordQ p q)) ∧ Below w.heap.size w w' := by
  obtain ⟨b1, x1, y1, h1, e1, g1, k1, p1⟩ := hu
  obtain ⟨b2, x2, y2, h2, e2, g2, k2, p2⟩ := hv
  have := jCompare_any (n + m) u v b1 b2 x1 y1 x2 y2 w (by omega) h1 h2 (W64_mono g1 (by omega)) (W64_mono k1 (by omega)) (W64_mono g2 (by omega)) (W64_mono k2 (by omega)) p1 p2
  rw [e1, e2] at this
  exact this
/-- box B holds a fraction with the value p -/
def JVQ (w : World) (B : Nat) (p : Rat) (n : Nat) : Prop := ∃ b A1 c1 l1 A2 c2 l2, w.heap[B]? = some (.cells #[.bool b, .slice A1 (l1 : List Nat).length c1, .slice A2 (l2 : List Nat).length c2] 69 (0, 0)) ∧ JQ w (.agg #[.bool b, .slice A1 l1.length c1, .slice A2 l2.length c2]) p n
theorem JVQ.on {w w' : World} {B : Nat} {p : Rat} {n : Nat} (h : JVQ w B p n) (hb : Below w.heap.size w w') : JVQ w' B p n := by
  obtain ⟨b, A1, c1, l1, A2, c2, l2, e, h1⟩ := h
  exact ⟨b, A1, c1, l1, A2, c2, l2, (hb.block B (heap_lt e)).trans e, h1.on hb⟩
theorem JVQ.lt {w : World} {B : Nat} {p : Rat} {n : Nat} (h : JVQ w B p n) : B < w.heap.size := by
  obtain ⟨b, A1, c1, l1, A2, c2, l2, e, h1⟩ := h
  exact heap_lt e
/-- what lies in such a box, as a value -/
theorem JVQ.get {w : World} {B : Nat} {p : Rat} {n : Nat} (h : JVQ w B p n) : ∃ b A1 c1 l1 A2 c2 l2, (∀ W, Below w.heap.size w W → W.cell? ⟨B, 0, none⟩ = some (.bool b) ∧ W.cell? ⟨B, 1, none⟩ = some (.slice A1 (l1 : List Nat).length c1) ∧ W.cell? ⟨B, 2, none⟩ = some (.slice A2 (l2 : List Nat).length c2) ∧ W.frozen? ⟨B, 0, none⟩ = false ∧ W.frozen? ⟨B, 1, none⟩ = false ∧ W.frozen? ⟨B, 2, none⟩ = false ∧ B < W.heap.size) ∧ JQ w (.agg #[.bool b, .slice A1 l1.length c1, .slice A2 l2.length c2]) p n := by
  obtain ⟨b, A1, c1, l1, A2, c2, l2, e, h1⟩ := h
  refine ⟨b, A1, c1, l1, A2, c2, l2, fun W hW => ?_, h1⟩
  have e' := (hW.block B (heap_lt e)).trans e
  exact ⟨by rw [cellsAt e']; rfl, by rw [cellsAt e']; rfl, by rw [cellsAt e']; rfl, frozenAt e' 0, frozenAt e' 1, frozenAt e' 2, heap_lt e'⟩
/-- a value laid in a box of its own -/
theorem JVQ.laid {w : World} {b : Bool} {A1 A2 : Option Addr} {c1 c2 : Nat} {l1 l2 : List Nat} {p : Rat} {n : Nat} (h : JQ w (.agg #[.bool b, .slice A1 l1.length c1, .slice A2 l2.length c2]) p n) : JVQ (w.alloc (.cells #[.bool b, .slice A1 l1.length c1, .slice A2 l2.length c2] 69)) w.heap.size p n :=
  ⟨b, A1, c1, l1, A2, c2, l2, alloc_at _ _ _ rfl, h.on ((Below.refl _ w).alloc (Nat.le_refl _) _)⟩
/-- a value stored into a box -/
theorem JVQ.set {w : World} {B : Nat} {b b0 : Bool} {A1 A2 : Option Addr} {c1 c2 : Nat} {l1 l2 : List Nat} {B1 B2 : Option Addr} {d1 d2 e1 e2 : Nat} {p : Rat} {n : Nat} (hX : w.heap[B]? = some (.cells #[.bool b0, .slice B1 d1 e1, .slice B2 d2 e2] 69 (0, 0))) (h : JQ w (.agg #[.bool b, .slice A1 l1.length c1, .slice A2 l2.length c2]) p n) :
    JVQ (((w.setCell ⟨B, 0, none⟩ (.bool b)).setCell ⟨B, 1, none⟩ (.slice A1 l1.length c1)).setCell ⟨B, 2, none⟩ (.slice A2 l2.length c2)) B p n := by
  obtain ⟨s, x, y, ⟨A3, c3, l3, A4, c4, l4, e, h1, h2⟩, h3⟩ := h
  simp only [Value.agg.injEq, Array.mk.injEq, List.cons.injEq, Value.bool.injEq, Value.slice.injEq, and_true] at e
  obtain ⟨rfl, ⟨rfl, g1, rfl⟩, ⟨rfl, g2, rfl⟩⟩ := e
  rw [g1, g2]
  obtain ⟨A5, c5, l5, A6, c6, l6, e5, h5, h6⟩ := jvar_set (b := b) hX (fun z => ⟨by simp, by simp, by simp⟩) h1 h2
  exact ⟨b, A5, c5, l5, A6, c6, l6, e5, b, x, y, ⟨A5, c5, l5, A6, c6, l6, rfl, h5, h6⟩, h3⟩
end Go.Proofs.YtnapdhfkgfjjfaaGreatDoor

/- Trials of package judge: plain. -/
namespace Go.Proofs.YtnapdhfkgfjjfaaGreatDoor
open Go

/-- the ratio of likelihoods of f failures of n, above and below -/
def trU (p q : Rat) (n f : Nat) : Nat := (frN q * p.den) ^ f * ((q.den - frN q) * p.den) ^ (n - f)
def trD (p q : Rat) (n f : Nat) : Nat := (frN p * q.den) ^ f * ((p.den - frN p) * q.den) ^ (n - f)
/-- high, low -/
def hiT (r : Rat) (u d : Nat) : Bool := decide (d * r.den ≤ u * frN r)
def loT (r : Rat) (u d : Nat) : Bool := decide (u * r.den ≤ d * frN r)
/-- what the ratio says -/
def verT (r0 r1 : Rat) (u d : Nat) : Int := if hiT r0 u d = true then 2 else if loT r1 u d = true then 1 else 3
/-- a common factor does not matter -/
theorem hiT_mul (r : Rat) (u d k : Nat) (hk : 0 < k) : hiT r (u * k) (d * k) = hiT r u d := by
  unfold hiT
  rw [decide_eq_decide, Nat.mul_right_comm d k, Nat.mul_right_comm u k]
  exact Nat.mul_le_mul_right_iff hk
theorem loT_mul (r : Rat) (u d k : Nat) (hk : 0 < k) : loT r (u * k) (d * k) = loT r u d := by
  unfold loT
  rw [decide_eq_decide, Nat.mul_right_comm d k, Nat.mul_right_comm u k]
  exact Nat.mul_le_mul_right_iff hk
theorem verT_mul (r0 r1 : Rat) (u d k : Nat) (hk : 0 < k) : verT r0 r1 (u * k) (d * k) = verT r0 r1 u d := by
  unfold verT; rw [hiT_mul _ _ _ _ hk, loT_mul _ _ _ _ hk]
/-- what a trial's probabilities satisfy -/
structure TrG (p q : Rat) : Prop where
  p0 : 0 < frN p
  p1 : frN p < p.den
  q0 : 0 < frN q
  q1 : frN q < q.den
  lt : frN p * q.den < frN q * p.den
theorem TrG.A {p q : Rat} (h : TrG p q) : 0 < frN q * p.den ∧ 0 < (q.den - frN q) * p.den ∧ 0 < frN p * q.den ∧ 0 < (p.den - frN p) * q.den := by
  have := h.p0; have := h.p1; have := h.q0; have := h.q1
  exact ⟨Nat.mul_pos (by omega) (by omega), Nat.mul_pos (by omega) (by omega), Nat.mul_pos (by omega) (by omega), Nat.mul_pos (by omega) (by omega)⟩
theorem trU_pos {p q : Rat} (h : TrG p q) (n f : Nat) : 0 < trU p q n f := Nat.mul_pos (Nat.pow_pos h.A.1) (Nat.pow_pos h.A.2.1)
theorem trD_pos {p q : Rat} (h : TrG p q) (n f : Nat) : 0 < trD p q n f := Nat.mul_pos (Nat.pow_pos h.A.2.2.1) (Nat.pow_pos h.A.2.2.2)
theorem tr_cross {p q : Rat} (h : TrG p q) : (frN p * q.den) * ((q.den - frN q) * p.den) ≤ (frN q * p.den) * ((p.den - frN p) * q.den) := by
  have h1 : frN p * (q.den - frN q) ≤ frN q * (p.den - frN p) := by
    rw [Nat.mul_sub, Nat.mul_sub, Nat.mul_comm (frN q) (frN p)]
    have := h.lt
    omega
  calc (frN p * q.den) * ((q.den - frN q) * p.den) = (frN p * (q.den - frN q)) * (q.den * p.den) := by
        rw [Nat.mul_assoc, Nat.mul_assoc, Nat.mul_left_comm q.den]
    _ ≤ (frN q * (p.den - frN p)) * (q.den * p.den) := Nat.mul_le_mul_right _ h1
    _ = (frN q * p.den) * ((p.den - frN p) * q.den) := by
        rw [Nat.mul_assoc, Nat.mul_assoc, Nat.mul_left_comm p.den, Nat.mul_comm q.den p.den]
theorem pow_cross {A A' B B' : Nat} {n f : Nat} (hf : f < n) (h : B * A' ≤ A * B') : (A ^ f * A' ^ (n - f)) * (B ^ (f + 1) * B' ^ (n - (f + 1))) ≤ (A ^ (f + 1) * A' ^ (n - (f + 1))) * (B ^ f * B' ^ (n - f)) := by
  obtain ⟨m, hm⟩ : ∃ m, n - f = m + 1 := ⟨n - f - 1, by omega⟩
  rw [hm, show n - (f + 1) = m by omega, Nat.pow_succ, Nat.pow_succ, Nat.pow_succ, Nat.pow_succ]
  have e1 : (A ^ f * (A' ^ m * A')) * (B ^ f * B * B' ^ m) = (A ^ f * A' ^ m * B ^ f * B' ^ m) * (B * A') := by grind
  have e2 : (A ^ f * A * A' ^ m) * (B ^ f * (B' ^ m * B')) = (A ^ f * A' ^ m * B ^ f * B' ^ m) * (A * B') := by grind
  rw [e1, e2]
  exact Nat.mul_le_mul_left _ h
theorem tr_step {p q : Rat} (h : TrG p q) {n f : Nat} (hf : f < n) : trU p q n f * trD p q n (f + 1) ≤ trU p q n (f + 1) * trD p q n f := pow_cross hf (tr_cross h)
theorem hiT_up {p q r : Rat} (h : TrG p q) {n f : Nat} (hf : f < n) (hh : hiT r (trU p q n f) (trD p q n f) = true) : hiT r (trU p q n (f + 1)) (trD p q n (f + 1)) = true := by
  unfold hiT at *
  simp only [decide_eq_true_eq] at *
  have h1 := tr_step h hf
  have hd := trD_pos h n f
  generalize trU p q n f = u at *
  generalize trD p q n f = d at *
  generalize trU p q n (f + 1) = u' at *
  generalize trD p q n (f + 1) = d' at *
  refine (Nat.mul_le_mul_right_iff hd).1 ?_
  calc d' * r.den * d = d * r.den * d' := by rw [Nat.mul_right_comm, Nat.mul_right_comm d, Nat.mul_comm d']
    _ ≤ u * frN r * d' := Nat.mul_le_mul_right _ hh
    _ = u * d' * frN r := Nat.mul_right_comm _ _ _
    _ ≤ u' * d * frN r := Nat.mul_le_mul_right _ h1
    _ = u' * frN r * d := Nat.mul_right_comm _ _ _
theorem loT_down {p q r : Rat} (h : TrG p q) {n f : Nat} (hf : f < n) (hh : loT r (trU p q n (f + 1)) (trD p q n (f + 1)) = true) : loT r (trU p q n f) (trD p q n f) = true := by
  unfold loT at *
  simp only [decide_eq_true_eq] at *
  have h1 := tr_step h hf
  have hd := trD_pos h n (f + 1)
  generalize trU p q n f = u at *
  generalize trD p q n f = d at *
  generalize trU p q n (f + 1) = u' at *
  generalize trD p q n (f + 1) = d' at *
  refine (Nat.mul_le_mul_right_iff hd).1 ?_
  calc u * r.den * d' = u * d' * r.den := Nat.mul_right_comm _ _ _
    _ ≤ u' * d * r.den := Nat.mul_le_mul_right _ h1
    _ = u' * r.den * d := Nat.mul_right_comm _ _ _
    _ ≤ d' * frN r * d := Nat.mul_le_mul_right _ hh
    _ = d * frN r * d' := by rw [Nat.mul_right_comm, Nat.mul_right_comm d, Nat.mul_comm d']
theorem hiT_mono {p q r : Rat} (h : TrG p q) {n : Nat} : ∀ {f g : Nat}, f ≤ g → g ≤ n → hiT r (trU p q n f) (trD p q n f) = true → hiT r (trU p q n g) (trD p q n g) = true := by
  intro f g
  induction g with
  | zero => intro h1 _ h3; obtain rfl : f = 0 := by omega
            exact h3
  | succ g ih =>
    intro h1 h2 h3
    rcases Nat.eq_or_lt_of_le h1 with e | e
    · subst e; exact h3
    · exact hiT_up h (by omega) (ih (by omega) (by omega) h3)
theorem loT_mono {p q r : Rat} (h : TrG p q) {n : Nat} : ∀ {f g : Nat}, f ≤ g → g ≤ n → loT r (trU p q n g) (trD p q n g) = true → loT r (trU p q n f) (trD p q n f) = true := by
  intro f g
  induction g with
  | zero => intro h1 _ h3; obtain rfl : f = 0 := by omega
            exact h3
  | succ g ih =>
    intro h1 h2 h3
    rcases Nat.eq_or_lt_of_le h1 with e | e
    · subst e; exact h3
    · exact ih (by omega) (by omega) (loT_down h (by omega) h3)
/-- the greatest number of failures that is low, the least one that is high -/
def LoAt (p q r : Rat) (n : Nat) (a : Int) : Prop := -1 ≤ a ∧ a ≤ n ∧ ∀ f : Nat, f ≤ n → ((f : Int) ≤ a ↔ loT r (trU p q n f) (trD p q n f) = true)
def HiAt (p q r : Rat) (n : Nat) (b : Int) : Prop := 0 ≤ b ∧ b ≤ n + 1 ∧ ∀ f : Nat, f ≤ n → (b ≤ f ↔ hiT r (trU p q n f) (trD p q n f) = true)
theorem LoAt.uniq {p q r : Rat} {n : Nat} {a a' : Int} (h : LoAt p q r n a) (h' : LoAt p q r n a') : a = a' := by
  obtain ⟨h1, h2, h3⟩ := h
  obtain ⟨g1, g2, g3⟩ := h'
  rcases Int.lt_trichotomy a a' with e | e | e
  · have k1 := h3 a'.toNat (by omega)
    have k2 := g3 a'.toNat (by omega)
    rw [← k2] at k1
    omega
  · exact e
  · have k1 := h3 a.toNat (by omega)
    have k2 := g3 a.toNat (by omega)
    rw [← k2] at k1
    omega
theorem HiAt.uniq {p q r : Rat} {n : Nat} {a a' : Int} (h : HiAt p q r n a) (h' : HiAt p q r n a') : a = a' := by
  obtain ⟨h1, h2, h3⟩ := h
  obtain ⟨g1, g2, g3⟩ := h'
  rcases Int.lt_trichotomy a a' with e | e | e
  · have k1 := h3 a.toNat (by omega)
    have k2 := g3 a.toNat (by omega)
    rw [← k2] at k1
    omega
  · exact e
  · have k1 := h3 a'.toNat (by omega)
    have k2 := g3 a'.toNat (by omega)
    rw [← k2] at k1
    omega
/-- out of a search -/
theorem LoAt.of {p q r : Rat} (h : TrG p q) {n : Nat} {a : Int} (h1 : -1 ≤ a) (h2 : a ≤ n) (h3 : 0 ≤ a → loT r (trU p q n a.toNat) (trD p q n a.toNat) = true) (h4 : a < n → loT r (trU p q n (a + 1).toNat) (trD p q n (a + 1).toNat) = false) : LoAt p q r n a := by
  refine ⟨h1, h2, fun f hf => ⟨fun hh => ?_, fun hh => ?_⟩⟩
  · exact loT_mono h (f := f) (g := a.toNat) (by omega) (by omega) (h3 (by omega))
  · refine Classical.byContradiction fun hc => ?_
    have := loT_mono h (r := r) (n := n) (f := (a + 1).toNat) (g := f) (by omega) hf hh
    rw [h4 (by omega)] at this
    cases this
theorem HiAt.of {p q r : Rat} (h : TrG p q) {n : Nat} {b : Int} (h1 : 0 ≤ b) (h2 : b ≤ n + 1) (h3 : b ≤ n → hiT r (trU p q n b.toNat) (trD p q n b.toNat) = true) (h4 : 0 < b → hiT r (trU p q n (b - 1).toNat) (trD p q n (b - 1).toNat) = false) : HiAt p q r n b := by
  refine ⟨h1, h2, fun f hf => ⟨fun hh => ?_, fun hh => ?_⟩⟩
  · exact hiT_mono h (f := b.toNat) (g := f) (by omega) hf (h3 (by omega))
  · refine Classical.byContradiction fun hc => ?_
    have := hiT_mono h (r := r) (n := n) (f := f) (g := (b - 1).toNat) (by omega) (by omega) hh
    rw [h4 (by omega)] at this
    cases this
/-- one result more -/
theorem trU_bad (p q : Rat) (n f : Nat) : trU p q (n + 1) (f + 1) = trU p q n f * (frN q * p.den) := by
  unfold trU; rw [show n + 1 - (f + 1) = n - f by omega, Nat.pow_succ, Nat.mul_right_comm]
theorem trD_bad (p q : Rat) (n f : Nat) : trD p q (n + 1) (f + 1) = trD p q n f * (frN p * q.den) := by
  unfold trD; rw [show n + 1 - (f + 1) = n - f by omega, Nat.pow_succ, Nat.mul_right_comm]
theorem trU_good (p q : Rat) {n f : Nat} (h : f ≤ n) : trU p q (n + 1) f = trU p q n f * ((q.den - frN q) * p.den) := by
  unfold trU; rw [show n + 1 - f = n - f + 1 by omega, Nat.pow_succ, Nat.mul_assoc]
theorem trD_good (p q : Rat) {n f : Nat} (h : f ≤ n) : trD p q (n + 1) f = trD p q n f * ((p.den - frN p) * q.den) := by
  unfold trD; rw [show n + 1 - f = n - f + 1 by omega, Nat.pow_succ, Nat.mul_assoc]
/-- how many of the first k results are failures -/
def bads (l : List Bool) (k : Nat) : Nat := (l.take k).countP id
theorem bads_le (l : List Bool) (k : Nat) : bads l k ≤ k := Nat.le_trans List.countP_le_length (List.length_take_le _ _)
theorem bads_succ {l : List Bool} {k : Nat} {b : Bool} (h : l[k]? = some b) : bads l (k + 1) = bads l k + (if b = true then 1 else 0) := by
  unfold bads
  rw [List.take_add_one, h, Option.toList_some, List.countP_append]
  cases b <;> simp
/-- the first verdict, from result k on -/
def judG (p q r0 r1 : Rat) (l : List Bool) : Nat → Nat → Int × Int
  | 0, k => (3, k)
  | m + 1, k => if verT r0 r1 (trU p q (k + 1) (bads l (k + 1))) (trD p q (k + 1) (bads l (k + 1))) = 3 then judG p q r0 r1 l m (k + 1) else (verT r0 r1 (trU p q (k + 1) (bads l (k + 1))) (trD p q (k + 1) (bads l (k + 1))), ((k + 1 : Nat) : Int))
def judT (p q r0 r1 : Rat) (l : List Bool) : Int × Int := judG p q r0 r1 l l.length 0
end Go.Proofs.YtnapdhfkgfjjfaaGreatDoor
