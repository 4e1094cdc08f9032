import Derived.Test.YtlkjgjojahjapaaGreatDoorG30
import Derived.Test.YtlkjgjojahjapaaGreatDoorG15
import Derived.Test.YtlkjgjojahjapaaGreatDoorG9
import Derived.Test.YtlkjgjojahjapaaGreatDoorG24
import Derived.Test.YtlkjgjojahjapaaGreatDoorG12
import Derived.Test.YtlkjgjojahjapaaGreatDoorJFrac2
/- Errors, as the reference adds them up: plain. -/
namespace Go.Proofs.YtlkjgjojahjapaaGreatDoor

section
variable (ver : Nat → Nat → Int)
/-- the row of a stage while what has ended is struck out -/
def opR (y q n F k : Nat) : Nat := if k < F then wOp ver y q n k else wNx ver y q n k
theorem opR_zero (y q n : Nat) : opR ver y q n 0 = wNx ver y q n := by funext k; unfold opR; rw [if_neg (by omega)]
theorem opR_hit {y q n F : Nat} (h : wOp ver y q n F = 0) : upN (opR ver y q n F) F 0 = opR ver y q n (F + 1) := by
  funext k
  unfold upN opR
  by_cases h1 : k = F
  · subst h1
    rw [if_pos rfl, if_pos (by omega), h]
  · rw [if_neg h1]
    by_cases h2 : k < F
    · rw [if_pos h2, if_pos (by omega)]
    · rw [if_neg h2, if_neg (by omega)]
theorem opR_keep {y q n F : Nat} (h : wOp ver y q n F = wNx ver y q n F) : opR ver y q n (F + 1) = opR ver y q n F := by
  funext k
  unfold opR
  by_cases h1 : k = F
  · subst h1
    rw [if_pos (by omega), if_neg (by omega), h]
  · by_cases h2 : k < F
    · rw [if_pos h2, if_pos (by omega)]
    · rw [if_neg h2, if_neg (by omega)]
theorem opR_all (y q n : Nat) : opR ver y q n (n + 1) = wOp ver y q n := by
  funext k
  unfold opR
  by_cases h : k < n + 1
  · rw [if_pos h]
  · rw [if_neg h, wOp_over ver y q n k (by omega), wNx_over ver y q n k (by omega)]
theorem wOp_open {y q n F : Nat} (h : ver n F = 3) : wOp ver y q n F = wNx ver y q n F := by
  unfold wOp opW
  rw [if_pos (.inr h)]
/-- what has ended by a verdict so far, as a fraction -/
def qP (v : Int) (y q d n F : Nat) : Rat := mkRat (toF ver v y q d (n + 1) n F : Nat) (d ^ (n + 1))
theorem qP_zero (v : Int) (y q d n : Nat) (hd : 0 < d) : qP ver v y q d n 0 = mkRat (errW ver v y q d n : Nat) (d ^ n) := by
  unfold qP
  rw [toF_zero, show n + 1 - n = 1 by omega, Nat.pow_one, Int.natCast_mul, Nat.pow_succ, Rat.mkRat_mul_right (by omega)]
theorem mk_add_same (a b : Nat) {D : Nat} (hD : 0 < D) : mkRat (a : Nat) D + mkRat (b : Nat) D = mkRat ((a + b : Nat) : Int) D := by
  rw [Rat.mkRat_add_mkRat _ _ (by omega) (by omega), ← Int.add_mul, Rat.mkRat_mul_right (by omega), Int.natCast_add]
theorem qP_hit {v : Int} {y q d n F : Nat} (hd : 0 < d) (h : ver (n + 1) F = v) : qP ver v y q d n (F + 1) = qP ver v y q d n F + mkRat (wNx ver y q (n + 1) F : Nat) (d ^ (n + 1)) := by
  unfold qP
  rw [mk_add_same _ _ (Nat.pow_pos hd), toF_hit ver h, Nat.sub_self, Nat.pow_zero, Nat.mul_one]
theorem qP_miss {v : Int} {y q d n F : Nat} (h : ver (n + 1) F ≠ v) : qP ver v y q d n (F + 1) = qP ver v y q d n F := by
  unfold qP
  rw [toF_miss ver (.inl h)]
theorem qP_all {v : Int} {y q d n : Nat} : qP ver v y q d n (n + 2) = mkRat (errW ver v y q d (n + 1) : Nat) (d ^ (n + 1)) := by
  unfold qP
  rw [toF_all ver (Nat.le_refl _), Nat.sub_self, Nat.pow_zero, Nat.mul_one]
end
end Go.Proofs.YtlkjgjojahjapaaGreatDoor

/- Pairs of fractions of the reference in two variables: what stores leave. -/
namespace Go.Proofs.YtlkjgjojahjapaaGreatDoor
open Go Go.RowKit Go.Proofs

theorem rnatr_set3 {w : World} {B : Nat} {u0 u1 u2 a0 a1 a2 : Value} {A : Option Addr} {c x : Nat} {l : List Nat} (h : RNatR w A c l x) (hX : w.heap[B]? = some (.cells #[u0, u1, u2] 33 (0, 0))) (hne : ∀ z, u0 ≠ .int .i64 z ∧ u1 ≠ .int .i64 z ∧ u2 ≠ .int .i64 z) : RNatR (((w.setCell ⟨B, 0, none⟩ a0).setCell ⟨B, 1, none⟩ a1).setCell ⟨B, 2, none⟩ a2) A c l x :=
  h.keep (fr3 (w := w) (B := B) a0 a1 a2).size (fun b o e hb hl => (fr3 (w := w) (B := B) a0 a1 a2).block b hb (h.apart hX (by intro v hv z; have := hne z; simp at hv; rcases hv with rfl | rfl | rfl <;> simp [this]) b o e hl))
theorem fbox_far {w : World} {B B' : Nat} (h : FBox w B) (hB : B ≠ B') (a0 a1 a2 : Value) : FBox (((w.setCell ⟨B', 0, none⟩ a0).setCell ⟨B', 1, none⟩ a1).setCell ⟨B', 2, none⟩ a2) B :=
  ((Below.heap_setCell ((w.setCell ⟨B', 0, none⟩ a0).setCell ⟨B', 1, none⟩ a1) ⟨B', 2, none⟩ a2 B hB).trans ((Below.heap_setCell (w.setCell ⟨B', 0, none⟩ a0) ⟨B', 1, none⟩ a1 B hB).trans (Below.heap_setCell w ⟨B', 0, none⟩ a0 B hB))).trans h
end Go.Proofs.YtlkjgjojahjapaaGreatDoor

/- The reference's fractions as values and in boxes. -/
namespace Go.Proofs.YtlkjgjojahjapaaGreatDoor
open Go Go.RowKit Go.Proofs

theorem FracR.shape {w : World} {v : Value} {q : Rat} (h : FracR w v q) : ∃ b A1 c1 l1 A2 c2 l2, v = .agg #[.bool b, .slice A1 (l1 : List Nat).length c1, .slice A2 (l2 : List Nat).length c2] := by
  obtain ⟨A1, c1, l1, A2, c2, l2, h1, _⟩ := h
  exact ⟨_, A1, c1, l1, A2, c2, l2, h1⟩
theorem VarQ.get {w : World} {B : Nat} {q : Rat} (h : VarQ w B q) : ∃ b A1 c1 l1 A2 c2 l2, (∀ W, Below w.heap.size w W → W.cell? ⟨B, 0, none⟩ = some (.bool b) ∧ W.cell? ⟨B, 1, none⟩ = some (.slice A1 (l1 : List Nat).length c1) ∧ W.cell? ⟨B, 2, none⟩ = some (.slice A2 (l2 : List Nat).length c2) ∧ W.frozen? ⟨B, 0, none⟩ = false ∧ W.frozen? ⟨B, 1, none⟩ = false ∧ W.frozen? ⟨B, 2, none⟩ = false ∧ B < W.heap.size) ∧ FracR w (.agg #[.bool b, .slice A1 l1.length c1, .slice A2 l2.length c2]) q := by
  obtain ⟨A1, c1, l1, A2, c2, l2, e, h1, h2⟩ := h
  refine ⟨_, A1, c1, l1, A2, c2, l2, fun W hW => ?_, A1, c1, l1, A2, c2, l2, rfl, h1, h2⟩
  have e' := (hW.block B (heap_lt e)).trans e
  exact ⟨by rw [cellsAt e']; rfl, by rw [cellsAt e']; rfl, by rw [cellsAt e']; rfl, frozenAt e' 0, frozenAt e' 1, frozenAt e' 2, heap_lt e'⟩
theorem VarQ.raw {w : World} {B : Nat} {q : Rat} (h : VarQ w B q) : ∃ b A1 d1 c1 A2 d2 c2, w.heap[B]? = some (.cells #[.bool b, .slice A1 d1 c1, .slice A2 d2 c2] 33 (0, 0)) := by
  obtain ⟨A1, c1, l1, A2, c2, l2, e, h1, h2⟩ := h
  exact ⟨_, _, _, _, _, _, _, e⟩
theorem VarQ.laid {w : World} {b : Bool} {A1 A2 : Option Addr} {c1 c2 : Nat} {l1 l2 : List Nat} {q : Rat} (h : FracR w (.agg #[.bool b, .slice A1 l1.length c1, .slice A2 l2.length c2]) q) : VarQ (w.alloc (.cells #[.bool b, .slice A1 l1.length c1, .slice A2 l2.length c2] 33)) w.heap.size q := by
  obtain ⟨A3, c3, l3, A4, c4, l4, e, h1, h2⟩ := h
  have hb : Below w.heap.size w (w.alloc (.cells #[.bool b, .slice A1 l1.length c1, .slice A2 l2.length c2] 33)) := (Below.refl _ w).alloc (Nat.le_refl _) _
  refine ⟨A3, c3, l3, A4, c4, l4, ?_, h1.on hb, h2.on hb⟩
  simp only [Value.agg.injEq, Array.mk.injEq, List.cons.injEq, and_true] at e
  obtain ⟨e1, e2, e3⟩ := e
  rw [e1, e2, e3]
  exact alloc_at _ _ _ rfl
theorem VarQ.store {w : World} {B : Nat} {b b0 : Bool} {A1 A2 : Option Addr} {c1 c2 : Nat} {l1 l2 : List Nat} {B1 B2 : Option Addr} {d1 d2 e1 e2 : Nat} {q : Rat} (hX : w.heap[B]? = some (.cells #[.bool b0, .slice B1 d1 e1, .slice B2 d2 e2] 33 (0, 0))) (h : FracR w (.agg #[.bool b, .slice A1 l1.length c1, .slice A2 l2.length c2]) q) :
    VarQ (((w.setCell ⟨B, 0, none⟩ (.bool b)).setCell ⟨B, 1, none⟩ (.slice A1 l1.length c1)).setCell ⟨B, 2, none⟩ (.slice A2 l2.length c2)) B q := by
  obtain ⟨A3, c3, l3, A4, c4, l4, e, h1, h2⟩ := h
  simp only [Value.agg.injEq, Array.mk.injEq, List.cons.injEq, and_true] at e
  obtain ⟨e1, e2, e3⟩ := e
  rw [e1, e2, e3]
  exact varq_set hX (fun z => ⟨by simp, by simp, by simp⟩) h1 h2
/-- a store into one box leaves what lies in the other one -/
theorem VarQ.far {w : World} {B B' : Nat} {p q : Rat} (h : VarQ w B p) (h2 : VarQ w B' q) (hB : B ≠ B') (a0 a1 a2 : Value) : VarQ (((w.setCell ⟨B', 0, none⟩ a0).setCell ⟨B', 1, none⟩ a1).setCell ⟨B', 2, none⟩ a2) B p := by
  obtain ⟨b, A1, d1, c1, A2, d2, c2, e⟩ := h2.raw
  exact varq_far h e (fun z => ⟨by simp, by simp, by simp⟩) hB
theorem VarQ.lt {w : World} {B : Nat} {q : Rat} (h : VarQ w B q) : B < w.heap.size := by
  obtain ⟨b, A1, d1, c1, A2, d2, c2, e⟩ := h.raw
  exact heap_lt e
/-- stored into the box of the result -/
theorem fq_ret {w0 w W : World} {B : Nat} {b : Bool} {A1 A2 : Option Addr} {c1 c2 : Nat} {l1 l2 : List Nat} {q : Rat} (hB : FBox w B) (h : FracR w (.agg #[.bool b, .slice A1 l1.length c1, .slice A2 l2.length c2]) q) (hbl : Below w0.heap.size w0 w) (h0 : w0.heap.size ≤ B) (hf : Fr (fun i => i = B) w W) : FracR W (.agg #[.bool b, .slice A1 l1.length c1, .slice A2 l2.length c2]) q ∧ Below w0.heap.size w0 W := by
  obtain ⟨A3, c3, l3, A4, c4, l4, e, h1, h2⟩ := h
  rw [e]
  exact frac_ret hB rfl h1 h2 hbl h0 hf
end Go.Proofs.YtlkjgjojahjapaaGreatDoor

/- Rows of the reference's numbers that are made whole: a block of slices. -/
namespace Go.Proofs.YtlkjgjojahjapaaGreatDoor
open Go Go.RowKit Go.Proofs

/-- block g holds n numbers: f 0, f 1, .. -/
def RRow (w : World) (g n : Nat) (f : Nat → Nat) : Prop :=
  ∃ vs : List Value, VBlk w g 31 vs ∧ vs.length = n ∧ ∀ k, k < n → ∃ A c l, vs[k]? = some (.slice A (l : List Nat).length c) ∧ RNatR w A c l (f k)
section
variable {w w' : World} {g n : Nat} {f : Nat → Nat}
theorem RRow.lt (h : RRow w g n f) : g < w.heap.size := by obtain ⟨vs, h1, _⟩ := h; exact heap_lt h1
theorem RRow.on (h : RRow w g n f) (hb : Below w.heap.size w w') : RRow w' g n f := by
  obtain ⟨vs, h1, h2, h3⟩ := h
  refine ⟨vs, h1.on hb, h2, fun k hk => ?_⟩
  obtain ⟨A, c, l, h4, h5⟩ := h3 k hk
  exact ⟨A, c, l, h4, h5.on hb⟩
theorem RRow.frozen (h : RRow w g n f) (k : Nat) : w.frozen? ⟨g, k, none⟩ = false := by obtain ⟨vs, h1, _⟩ := h; exact h1.frozen k
theorem RRow.get (h : RRow w g n f) {k : Nat} (hk : k < n) : ∃ A c l, (∀ X, Below w.heap.size w X → X.cell? ⟨g, k, none⟩ = some (.slice A (l : List Nat).length c)) ∧ RNatR w A c l (f k) := by
  obtain ⟨vs, h1, h2, h3⟩ := h
  obtain ⟨A, c, l, h4, h5⟩ := h3 k hk
  exact ⟨A, c, l, fun X hX => (h1.on hX).cell h4, h5⟩
theorem RRow.noInt (h : RRow w g n f) : ∃ vs : List Value, VBlk w g 31 vs ∧ ∀ v ∈ vs, ∀ z, v ≠ .int .i64 z := by
  obtain ⟨vs, h1, h2, h3⟩ := h
  refine ⟨vs, h1, fun v hv z => ?_⟩
  obtain ⟨k, hk⟩ := List.getElem?_of_mem hv
  obtain ⟨A, c, l, h4, _⟩ := h3 k (by have := (List.getElem?_eq_some_iff.1 hk).1; omega)
  rw [hk] at h4
  cases h4
  simp
theorem RNatR.setR {A : Option Addr} {c x : Nat} {l : List Nat} (h : RNatR w A c l x) (hg : RRow w g n f) (k : Nat) (u : Value) : RNatR (w.setCell ⟨g, k, none⟩ u) A c l x := by
  obtain ⟨vs, h1, h2⟩ := hg.noInt
  have hf : Fr (fun i => i = g) w (w.setCell ⟨g, k, none⟩ u) := (Fr.refl (fun i => i = g) w).setCell (p := ⟨g, k, none⟩) (fun _ => rfl) u
  exact h.keep hf.size fun b o e hb hl => hf.block b hb (h.apart h1 (by simpa using h2) b o e hl)
theorem RRow.set (h : RRow w g n f) {k : Nat} (hk : k < n) {A : Option Addr} {c x : Nat} {l : List Nat} (hx : RNatR w A c l x) : RRow (w.setCell ⟨g, k, none⟩ (.slice A l.length c)) g n (upN f k x) := by
  have hh := h
  obtain ⟨vs, h1, h2, h3⟩ := h
  refine ⟨vs.set k (.slice A l.length c), h1.set k _, by rw [List.length_set, h2], fun j hj => ?_⟩
  unfold upN
  by_cases e : j = k
  · subst e
    rw [if_pos rfl]
    exact ⟨A, c, l, by rw [List.getElem?_set_self (by omega)], hx.setR hh j _⟩
  · rw [if_neg e]
    obtain ⟨A', c', l', h4, h5⟩ := h3 j hj
    exact ⟨A', c', l', by rw [List.getElem?_set_ne (Ne.symm e), h4], h5.setR hh k _⟩
theorem RRow.zero (h : VBlk w g 31 (List.replicate n (.slice none 0 0))) : RRow w g n (fun _ => 0) :=
  ⟨_, h, by simp, fun k hk => ⟨none, 0, [], by rw [List.getElem?_replicate, if_pos hk]; rfl, rnatr_nil w⟩⟩
theorem RNatR.frQ {B : Nat} {q : Rat} {A : Option Addr} {c x : Nat} {l : List Nat} (h : RNatR w A c l x) (hb : VarQ w B q) (hf : Fr (fun i => i = B) w w') : RNatR w' A c l x := by
  obtain ⟨b, A1, d1, c1, A2, d2, c2, e⟩ := hb.raw
  exact h.keep hf.size fun b' o e' hb' hl => hf.block b' hb' (h.apart e (by intro v hv z; simp at hv; rcases hv with rfl | rfl | rfl <;> simp) b' o e' hl)
theorem RRow.neQ {B : Nat} {q : Rat} (h : RRow w g n f) (hb : VarQ w B q) : g ≠ B := by
  obtain ⟨b, A1, d1, c1, A2, d2, c2, e⟩ := hb.raw
  obtain ⟨vs, h1, _⟩ := h
  intro hgB
  subst hgB
  unfold VBlk at h1
  rw [e] at h1
  injection h1 with h1
  injection h1 with _ h2 _
  exact absurd h2 (by decide)
theorem RRow.frQ {B : Nat} {q : Rat} (h : RRow w g n f) (hb : VarQ w B q) (hf : Fr (fun i => i = B) w w') : RRow w' g n f := by
  have hne := h.neQ hb
  obtain ⟨vs, h1, h2, h3⟩ := h
  refine ⟨vs, (hf.block g (heap_lt h1) hne).trans h1, h2, fun k hk => ?_⟩
  obtain ⟨A, c, l, h4, h5⟩ := h3 k hk
  exact ⟨A, c, l, h4, h5.frQ hb hf⟩
theorem VarQ.setR {B : Nat} {q : Rat} (h : VarQ w B q) (hg : RRow w g n f) (k : Nat) (u : Value) : VarQ (w.setCell ⟨g, k, none⟩ u) B q := by
  have hne := hg.neQ h
  obtain ⟨A1, c1, l1, A2, c2, l2, e, h1, h2⟩ := h
  exact ⟨A1, c1, l1, A2, c2, l2, (Below.heap_setCell _ _ _ _ (Ne.symm hne)).trans e, h1.setR hg k u, h2.setR hg k u⟩
end
end Go.Proofs.YtlkjgjojahjapaaGreatDoor

/- Quotients of fractions: plain. -/
namespace Go.Proofs.YtlkjgjojahjapaaGreatDoor
open Go

/-- bounds of a value through any form of it -/
theorem mk_sz {b : Bool} {x y X Y : Nat} (hy : 0 < y) (hx : x < X) (hY : y < Y) : frN (mkRat (sg b x) y) < X ∧ (mkRat (sg b x) y).den < Y := by
  obtain ⟨_, h2, h3⟩ := low_parts b (x := x) hy
  rw [h2, h3]
  exact ⟨Nat.lt_of_le_of_lt (Nat.div_le_self _ _) hx, Nat.lt_of_le_of_lt (Nat.div_le_self _ _) hY⟩
end Go.Proofs.YtlkjgjojahjapaaGreatDoor

/- Package judge: fractions in memory: times, over. Printed by gen_jarith.py. -/
namespace Go.Proofs.YtlkjgjojahjapaaGreatDoor
open Go Go.RowKit Go.Proofs

set_option maxHeartbeats 8000000 in
set_option maxRecDepth 100000 in
theorem jTimes_any (n : Nat) (u v : Value) (ba bb : Bool) (xa ya xb yb : Nat) (w : World) (hn : n ≤ 400000) (ha : JF w u ba xa ya) (hb : JF w v bb xb yb) (hx1 : xa < W64 ^ n) (hy1 : ya < W64 ^ n) (hx2 : xb < W64 ^ n) (hy2 : yb < W64 ^ n) :
    Calls Tryz.prog 121 #[u, v] w (JFPost (ba != bb) (xa * xb) (ya * yb) w) := by
  obtain ⟨A1, c1, l1, A2, c2, l2, rfl, ha1, ha2⟩ := ha
  obtain ⟨A3, c3, l3, A4, c4, l4, rfl, hb1, hb2⟩ := hb
  have la1 := ha1.len hx1
  have la2 := ha2.len hy1
  have lb1 := hb1.len hx2
  have lb2 := hb2.len hy2
  obtain ⟨W0, hW0⟩ : ∃ W0, W0 = ((w.alloc (.cells #[.bool ba, .slice A1 l1.length c1, .slice A2 l2.length c2] 71)).alloc (.cells #[.bool bb, .slice A3 l3.length c3, .slice A4 l4.length c4] 71)).alloc (.cells #[.bool false, .slice none 0 0, .slice none 0 0] 71) := ⟨_, rfl⟩
  have HST0 := Lib.hid (show St w W0 [(w.heap.size, .cells #[.bool ba, .slice A1 l1.length c1, .slice A2 l2.length c2] 71 (0, 0)), (w.heap.size + 1, .cells #[.bool bb, .slice A3 l3.length c3, .slice A4 l4.length c4] 71 (0, 0)), (w.heap.size + 1 + 1, .cells #[.bool false, .slice none 0 0, .slice none 0 0] 71 (0, 0))] by rw [hW0]; exact (((St.start w).alloc _ _ rfl).alloc _ _ (by simp)).alloc _ _ (by simp))
  have hs0 : W0.heap.size = w.heap.size + 3 := by rw [hW0]; simp
  have HX0 := Lib.hid (show JBox W0 (w.heap.size + 1 + 1) from HST0.out.at 2 rfl)
  have HA1 := Lib.hid (ha1.on HST0.out.below)
  have HA2 := Lib.hid (ha2.on HST0.out.below)
  have HA3 := Lib.hid (hb1.on HST0.out.below)
  have HA4 := Lib.hid (hb2.on HST0.out.below)
  have HM1 := Lib.hid (fun W (hb : Below W0.heap.size W0 W) => natMul_any A1 A3 c1 c3 l1 l3 _ _ W (HA1.out.on hb) (HA3.out.on hb) (by omega) (by omega))
  have HM2 := Lib.hid (fun W (hb : Below W0.heap.size W0 W) => natMul_any A2 A4 c2 c4 l2 l4 _ _ W (HA2.out.on hb) (HA4.out.on hb) (by omega) (by omega))
  obtain ⟨X, hX⟩ : ∃ X, X = xa * xb := ⟨_, rfl⟩
  obtain ⟨Y, hY⟩ : ∃ Y, Y = ya * yb := ⟨_, rfl⟩
  rw [← hX] at HM1 ⊢
  rw [← hY] at HM2 ⊢
  clear ha1 ha2 hb1 hb2 hx1 hx2 hy1 hy2 hX hY
  have HKS := Lib.hid (show ∀ X, Below W0.heap.size W0 X → (fun X => Below W0.heap.size W0 X ∧ X.cell? ⟨w.heap.size, 0, none⟩ = some (.bool ba) ∧ X.cell? ⟨w.heap.size, 1, none⟩ = some (.slice A1 l1.length c1) ∧ X.cell? ⟨w.heap.size, 2, none⟩ = some (.slice A2 l2.length c2) ∧ X.cell? ⟨w.heap.size + 1, 0, none⟩ = some (.bool bb) ∧ X.cell? ⟨w.heap.size + 1, 1, none⟩ = some (.slice A3 l3.length c3) ∧ X.cell? ⟨w.heap.size + 1, 2, none⟩ = some (.slice A4 l4.length c4)) X from fun X hX => ⟨hX, (HST0.out.call hX).cell 0 0 rfl rfl, (HST0.out.call hX).cell 0 1 rfl rfl, (HST0.out.call hX).cell 0 2 rfl rfl, (HST0.out.call hX).cell 1 0 rfl rfl, (HST0.out.call hX).cell 1 1 rfl rfl, (HST0.out.call hX).cell 1 2 rfl rfl⟩)
  go_enter Tryz.func121, Tryz.ntmps121
  go_wp2_with fail
  rw [← hW0]
  clear hW0
  refine wp_region_last (init := #[_, _, _, _, _, _, _, _, _, _, _, _, _, _, _, _]) (last := _) rfl (by kernel_rfl) (by kernel_rfl) (by kernel_rfl) ?_
  show wpAny _ _ _ _ 16 (Array.replicate 16 false) _ _
  refine wpAny_of_held (S := (fun X => Below W0.heap.size W0 X ∧ X.cell? ⟨w.heap.size, 0, none⟩ = some (.bool ba) ∧ X.cell? ⟨w.heap.size, 1, none⟩ = some (.slice A1 l1.length c1) ∧ X.cell? ⟨w.heap.size, 2, none⟩ = some (.slice A2 l2.length c2) ∧ X.cell? ⟨w.heap.size + 1, 0, none⟩ = some (.bool bb) ∧ X.cell? ⟨w.heap.size + 1, 1, none⟩ = some (.slice A3 l3.length c3) ∧ X.cell? ⟨w.heap.size + 1, 2, none⟩ = some (.slice A4 l4.length c4))) _ _ _ _ ?_
  have HS0 := HKS.out _ (Below.refl _ W0).drew
  refine wpAnyH_take (i := 0) (v := ?_) rfl (by kernel_rfl) (by kernel_rfl) (by kernel_rfl) (fun _ _ _ h => h) (Or.inl ⟨by rfl, ?_⟩) HS0 ?_
  rotate_left
  · intro W hW; (try dsimp only at hW); go_simp; try (with_reducible rfl)
  (try simp only [List.getElem_toArray, List.getElem_cons_succ, List.getElem_cons_zero, Act.put, List.setIfInBounds_toArray, List.set_cons_zero, List.set_cons_succ])
  refine wpAnyH_take (i := 1) (v := ?_) rfl (by kernel_rfl) (by kernel_rfl) (by kernel_rfl) (fun _ _ _ h => h) (Or.inl ⟨by rfl, ?_⟩) HS0 ?_
  rotate_left
  · intro W hW; (try dsimp only at hW); go_simp; try (with_reducible rfl)
  (try simp only [List.getElem_toArray, List.getElem_cons_succ, List.getElem_cons_zero, Act.put, List.setIfInBounds_toArray, List.set_cons_zero, List.set_cons_succ])
  refine wpAnyH_take (i := 2) (v := ?_) rfl (by kernel_rfl) (by kernel_rfl) (by kernel_rfl) (fun _ _ _ h => h) (Or.inl ⟨by rfl, ?_⟩) HS0 ?_
  rotate_left
  · intro W hW; (try dsimp only at hW); go_simp; try (with_reducible rfl)
  (try simp only [List.getElem_toArray, List.getElem_cons_succ, List.getElem_cons_zero, Act.put, List.setIfInBounds_toArray, List.set_cons_zero, List.set_cons_succ])
  refine wpAnyH_take (i := 3) (v := ?_) rfl (by kernel_rfl) (by kernel_rfl) (by kernel_rfl) (fun _ _ _ h => h) (Or.inl ⟨by rfl, ?_⟩) HS0 ?_
  rotate_left
  · intro W hW; (try dsimp only at hW); go_simp; try (with_reducible rfl)
  (try simp only [List.getElem_toArray, List.getElem_cons_succ, List.getElem_cons_zero, Act.put, List.setIfInBounds_toArray, List.set_cons_zero, List.set_cons_succ])
  refine wpAnyH_take (i := 4) (v := ?_) rfl (by kernel_rfl) (by kernel_rfl) (by kernel_rfl) (fun _ _ _ h => h) (Or.inl ⟨by rfl, ?_⟩) HS0 ?_
  rotate_left
  · intro W hW; (try dsimp only at hW); go_simp; try (with_reducible rfl)
  (try simp only [List.getElem_toArray, List.getElem_cons_succ, List.getElem_cons_zero, Act.put, List.setIfInBounds_toArray, List.set_cons_zero, List.set_cons_succ])
  refine wpAnyH_take (i := 5) (v := ?_) rfl (by kernel_rfl) (by kernel_rfl) (by kernel_rfl) (fun _ _ _ h => h) (Or.inl ⟨by rfl, ?_⟩) HS0 ?_
  rotate_left
  · intro W hW; (try dsimp only at hW); go_simp; try (with_reducible rfl)
  (try simp only [List.getElem_toArray, List.getElem_cons_succ, List.getElem_cons_zero, Act.put, List.setIfInBounds_toArray, List.set_cons_zero, List.set_cons_succ])
  refine wpAnyH_take (i := 6) (v := ?_) rfl (by kernel_rfl) (by kernel_rfl) (by kernel_rfl) (fun _ _ _ h => h) (Or.inl ⟨by rfl, ?_⟩) HS0 ?_
  rotate_left
  · intro W hW; (try dsimp only at hW); go_simp; try (with_reducible rfl)
  (try simp only [List.getElem_toArray, List.getElem_cons_succ, List.getElem_cons_zero, Act.put, List.setIfInBounds_toArray, List.set_cons_zero, List.set_cons_succ])
  refine wpAnyH_take (i := 7) (v := ?_) rfl (by kernel_rfl) (by kernel_rfl) (by kernel_rfl) (fun _ _ _ h => h) (Or.inl ⟨by rfl, ?_⟩) HS0 ?_
  rotate_left
  · intro W hW; (try dsimp only at hW); go_simp; try (with_reducible rfl)
  (try simp only [List.getElem_toArray, List.getElem_cons_succ, List.getElem_cons_zero, Act.put, List.setIfInBounds_toArray, List.set_cons_zero, List.set_cons_succ])
  refine wpAnyH_take (i := 8) (v := ?_) rfl (by kernel_rfl) (by kernel_rfl) (by kernel_rfl) (fun _ _ _ h => h) (Or.inl ⟨by rfl, ?_⟩) HS0 ?_
  rotate_left
  · intro W hW; (try dsimp only at hW); go_simp; try (with_reducible rfl)
  (try simp only [List.getElem_toArray, List.getElem_cons_succ, List.getElem_cons_zero, Act.put, List.setIfInBounds_toArray, List.set_cons_zero, List.set_cons_succ])
  refine wpAnyH_take (i := 10) (v := ?_) rfl (by kernel_rfl) (by kernel_rfl) (by kernel_rfl) (fun _ _ _ h => h) (Or.inl ⟨by rfl, ?_⟩) HS0 ?_
  rotate_left
  · intro W hW; (try dsimp only at hW); go_simp; try (with_reducible rfl)
  (try simp only [List.getElem_toArray, List.getElem_cons_succ, List.getElem_cons_zero, Act.put, List.setIfInBounds_toArray, List.set_cons_zero, List.set_cons_succ])
  refine wpAnyH_take (i := 11) (v := ?_) rfl (by kernel_rfl) (by kernel_rfl) (by kernel_rfl) (fun _ _ _ h => h) (Or.inl ⟨by rfl, ?_⟩) HS0 ?_
  rotate_left
  · intro W hW; (try dsimp only at hW); go_simp; try (with_reducible rfl)
  (try simp only [List.getElem_toArray, List.getElem_cons_succ, List.getElem_cons_zero, Act.put, List.setIfInBounds_toArray, List.set_cons_zero, List.set_cons_succ])
  refine wpAnyH_take (i := 12) (v := ?_) rfl (by kernel_rfl) (by kernel_rfl) (by kernel_rfl) (fun _ _ _ h => h) (Or.inl ⟨by rfl, ?_⟩) HS0 ?_
  rotate_left
  · intro W hW; (try dsimp only at hW); go_simp; try (with_reducible rfl)
  (try simp only [List.getElem_toArray, List.getElem_cons_succ, List.getElem_cons_zero, Act.put, List.setIfInBounds_toArray, List.set_cons_zero, List.set_cons_succ])
  refine wpAnyH_take (i := 13) (v := ?_) rfl (by kernel_rfl) (by kernel_rfl) (by kernel_rfl) (fun _ _ _ h => h) (Or.inl ⟨by rfl, ?_⟩) HS0 ?_
  rotate_left
  · intro W hW; (try dsimp only at hW); go_simp; try (with_reducible rfl)
  (try simp only [List.getElem_toArray, List.getElem_cons_succ, List.getElem_cons_zero, Act.put, List.setIfInBounds_toArray, List.set_cons_zero, List.set_cons_succ])
  refine run_one (i := 9) (by kernel_rfl) rfl rfl ?_
  intro K hK
  go_simp
  refine (HM1.out _ HS0.1).mono ?_
  rintro e w8 ⟨A8, c8, l8, rfl, hn8, hb8⟩
  refine hK.out _ _ (HKS.out _ (below_next HS0.1 hb8)) ?_
  clear hK K
  have HSP := HS0
  clear HS0
  intro HS0
  refine run_one (i := 14) (by kernel_rfl) rfl rfl ?_
  intro K hK
  go_simp
  refine (HM2.out _ HS0.1).mono ?_
  rintro e w9 ⟨A9, c9, l9, rfl, hn9, hb9⟩
  refine hK.out _ _ (HKS.out _ (below_next HS0.1 hb9)) ?_
  clear hK K
  have HSP := HS0
  clear HS0
  intro HS0
  refine wpAnyH_take (i := 15) (v := ?_) rfl (by kernel_rfl) (by kernel_rfl) (by kernel_rfl) (fun _ _ _ h => h) (Or.inl ⟨by rfl, ?_⟩) HS0 ?_
  rotate_left
  · intro W hW; (try dsimp only at hW); go_simp; try (with_reducible rfl)
  (try simp only [List.getElem_toArray, List.getElem_cons_succ, List.getElem_cons_zero, Act.put, List.setIfInBounds_toArray, List.set_cons_zero, List.set_cons_succ])
  refine wpAnyH_done (by kernel_rfl) ?_ _
  simp only [LastQ]
  have HF := Lib.hid (fun W (hf : Fr (fun i => i = w.heap.size + 1 + 1) w9 W) => jf_ret (HX0.out.on HS0.1) (jf_mk (b := !(ba == bb)) (hn8.on hb9) hn9) (below_next HST0.out.below HS0.1) (by omega) hf)
  obtain ⟨k0, k1, k2, z0, z1, z2, hlt⟩ := (HX0.out.on HS0.1).facts
  clear HS0 HSP hb8 hb9 hn8 hn9
  go_simp
  go_wp2
  refine bodyPost_ret (v := .agg #[.bool (!(ba == bb)), .slice A8 l8.length c8, .slice A9 l9.length c9]) (by simp [results, Tryz.results121, go_sem, k0, k1, k2]) rfl ⟨_, rfl, HF.out _ (fr3 _ _ _)⟩

set_option maxHeartbeats 8000000 in
set_option maxRecDepth 100000 in
theorem jOver_any (n : Nat) (u v : Value) (ba bb : Bool) (xa ya xb yb : Nat) (w : World) (hn : n ≤ 400000) (ha : JF w u ba xa ya) (hb : JF w v bb xb yb) (hx1 : xa < W64 ^ n) (hy1 : ya < W64 ^ n) (hx2 : xb < W64 ^ n) (hy2 : yb < W64 ^ n) :
    Calls Tryz.prog 66 #[u, v] w (JFPost (ba != bb) (xa * yb) (ya * xb) w) := by
  obtain ⟨A1, c1, l1, A2, c2, l2, rfl, ha1, ha2⟩ := ha
  obtain ⟨A3, c3, l3, A4, c4, l4, rfl, hb1, hb2⟩ := hb
  have la1 := ha1.len hx1
  have la2 := ha2.len hy1
  have lb1 := hb1.len hx2
  have lb2 := hb2.len hy2
  obtain ⟨W0, hW0⟩ : ∃ W0, W0 = ((w.alloc (.cells #[.bool ba, .slice A1 l1.length c1, .slice A2 l2.length c2] 71)).alloc (.cells #[.bool bb, .slice A3 l3.length c3, .slice A4 l4.length c4] 71)).alloc (.cells #[.bool false, .slice none 0 0, .slice none 0 0] 71) := ⟨_, rfl⟩
  have HST0 := Lib.hid (show St w W0 [(w.heap.size, .cells #[.bool ba, .slice A1 l1.length c1, .slice A2 l2.length c2] 71 (0, 0)), (w.heap.size + 1, .cells #[.bool bb, .slice A3 l3.length c3, .slice A4 l4.length c4] 71 (0, 0)), (w.heap.size + 1 + 1, .cells #[.bool false, .slice none 0 0, .slice none 0 0] 71 (0, 0))] by rw [hW0]; exact (((St.start w).alloc _ _ rfl).alloc _ _ (by simp)).alloc _ _ (by simp))
  have hs0 : W0.heap.size = w.heap.size + 3 := by rw [hW0]; simp
  have HX0 := Lib.hid (show JBox W0 (w.heap.size + 1 + 1) from HST0.out.at 2 rfl)
  have HA1 := Lib.hid (ha1.on HST0.out.below)
  have HA2 := Lib.hid (ha2.on HST0.out.below)
  have HA3 := Lib.hid (hb1.on HST0.out.below)
  have HA4 := Lib.hid (hb2.on HST0.out.below)
  have HM1 := Lib.hid (fun W (hb : Below W0.heap.size W0 W) => natMul_any A1 A4 c1 c4 l1 l4 _ _ W (HA1.out.on hb) (HA4.out.on hb) (by omega) (by omega))
  have HM2 := Lib.hid (fun W (hb : Below W0.heap.size W0 W) => natMul_any A2 A3 c2 c3 l2 l3 _ _ W (HA2.out.on hb) (HA3.out.on hb) (by omega) (by omega))
  obtain ⟨X, hX⟩ : ∃ X, X = xa * yb := ⟨_, rfl⟩
  obtain ⟨Y, hY⟩ : ∃ Y, Y = ya * xb := ⟨_, rfl⟩
  rw [← hX] at HM1 ⊢
  rw [← hY] at HM2 ⊢
  clear ha1 ha2 hb1 hb2 hx1 hx2 hy1 hy2 hX hY
  have HKS := Lib.hid (show ∀ X, Below W0.heap.size W0 X → (fun X => Below W0.heap.size W0 X ∧ X.cell? ⟨w.heap.size, 0, none⟩ = some (.bool ba) ∧ X.cell? ⟨w.heap.size, 1, none⟩ = some (.slice A1 l1.length c1) ∧ X.cell? ⟨w.heap.size, 2, none⟩ = some (.slice A2 l2.length c2) ∧ X.cell? ⟨w.heap.size + 1, 0, none⟩ = some (.bool bb) ∧ X.cell? ⟨w.heap.size + 1, 1, none⟩ = some (.slice A3 l3.length c3) ∧ X.cell? ⟨w.heap.size + 1, 2, none⟩ = some (.slice A4 l4.length c4)) X from fun X hX => ⟨hX, (HST0.out.call hX).cell 0 0 rfl rfl, (HST0.out.call hX).cell 0 1 rfl rfl, (HST0.out.call hX).cell 0 2 rfl rfl, (HST0.out.call hX).cell 1 0 rfl rfl, (HST0.out.call hX).cell 1 1 rfl rfl, (HST0.out.call hX).cell 1 2 rfl rfl⟩)
  go_enter Tryz.func66, Tryz.ntmps66
  go_wp2_with fail
  rw [← hW0]
  clear hW0
  refine wp_region_last (init := #[_, _, _, _, _, _, _, _, _, _, _, _, _, _, _, _]) (last := _) rfl (by kernel_rfl) (by kernel_rfl) (by kernel_rfl) ?_
  show wpAny _ _ _ _ 16 (Array.replicate 16 false) _ _
  refine wpAny_of_held (S := (fun X => Below W0.heap.size W0 X ∧ X.cell? ⟨w.heap.size, 0, none⟩ = some (.bool ba) ∧ X.cell? ⟨w.heap.size, 1, none⟩ = some (.slice A1 l1.length c1) ∧ X.cell? ⟨w.heap.size, 2, none⟩ = some (.slice A2 l2.length c2) ∧ X.cell? ⟨w.heap.size + 1, 0, none⟩ = some (.bool bb) ∧ X.cell? ⟨w.heap.size + 1, 1, none⟩ = some (.slice A3 l3.length c3) ∧ X.cell? ⟨w.heap.size + 1, 2, none⟩ = some (.slice A4 l4.length c4))) _ _ _ _ ?_
  have HS0 := HKS.out _ (Below.refl _ W0).drew
  refine wpAnyH_take (i := 0) (v := ?_) rfl (by kernel_rfl) (by kernel_rfl) (by kernel_rfl) (fun _ _ _ h => h) (Or.inl ⟨by rfl, ?_⟩) HS0 ?_
  rotate_left
  · intro W hW; (try dsimp only at hW); go_simp; try (with_reducible rfl)
  (try simp only [List.getElem_toArray, List.getElem_cons_succ, List.getElem_cons_zero, Act.put, List.setIfInBounds_toArray, List.set_cons_zero, List.set_cons_succ])
  refine wpAnyH_take (i := 1) (v := ?_) rfl (by kernel_rfl) (by kernel_rfl) (by kernel_rfl) (fun _ _ _ h => h) (Or.inl ⟨by rfl, ?_⟩) HS0 ?_
  rotate_left
  · intro W hW; (try dsimp only at hW); go_simp; try (with_reducible rfl)
  (try simp only [List.getElem_toArray, List.getElem_cons_succ, List.getElem_cons_zero, Act.put, List.setIfInBounds_toArray, List.set_cons_zero, List.set_cons_succ])
  refine wpAnyH_take (i := 2) (v := ?_) rfl (by kernel_rfl) (by kernel_rfl) (by kernel_rfl) (fun _ _ _ h => h) (Or.inl ⟨by rfl, ?_⟩) HS0 ?_
  rotate_left
  · intro W hW; (try dsimp only at hW); go_simp; try (with_reducible rfl)
  (try simp only [List.getElem_toArray, List.getElem_cons_succ, List.getElem_cons_zero, Act.put, List.setIfInBounds_toArray, List.set_cons_zero, List.set_cons_succ])
  refine wpAnyH_take (i := 3) (v := ?_) rfl (by kernel_rfl) (by kernel_rfl) (by kernel_rfl) (fun _ _ _ h => h) (Or.inl ⟨by rfl, ?_⟩) HS0 ?_
  rotate_left
  · intro W hW; (try dsimp only at hW); go_simp; try (with_reducible rfl)
  (try simp only [List.getElem_toArray, List.getElem_cons_succ, List.getElem_cons_zero, Act.put, List.setIfInBounds_toArray, List.set_cons_zero, List.set_cons_succ])
  refine wpAnyH_take (i := 4) (v := ?_) rfl (by kernel_rfl) (by kernel_rfl) (by kernel_rfl) (fun _ _ _ h => h) (Or.inl ⟨by rfl, ?_⟩) HS0 ?_
  rotate_left
  · intro W hW; (try dsimp only at hW); go_simp; try (with_reducible rfl)
  (try simp only [List.getElem_toArray, List.getElem_cons_succ, List.getElem_cons_zero, Act.put, List.setIfInBounds_toArray, List.set_cons_zero, List.set_cons_succ])
  refine wpAnyH_take (i := 5) (v := ?_) rfl (by kernel_rfl) (by kernel_rfl) (by kernel_rfl) (fun _ _ _ h => h) (Or.inl ⟨by rfl, ?_⟩) HS0 ?_
  rotate_left
  · intro W hW; (try dsimp only at hW); go_simp; try (with_reducible rfl)
  (try simp only [List.getElem_toArray, List.getElem_cons_succ, List.getElem_cons_zero, Act.put, List.setIfInBounds_toArray, List.set_cons_zero, List.set_cons_succ])
  refine wpAnyH_take (i := 6) (v := ?_) rfl (by kernel_rfl) (by kernel_rfl) (by kernel_rfl) (fun _ _ _ h => h) (Or.inl ⟨by rfl, ?_⟩) HS0 ?_
  rotate_left
  · intro W hW; (try dsimp only at hW); go_simp; try (with_reducible rfl)
  (try simp only [List.getElem_toArray, List.getElem_cons_succ, List.getElem_cons_zero, Act.put, List.setIfInBounds_toArray, List.set_cons_zero, List.set_cons_succ])
  refine wpAnyH_take (i := 7) (v := ?_) rfl (by kernel_rfl) (by kernel_rfl) (by kernel_rfl) (fun _ _ _ h => h) (Or.inl ⟨by rfl, ?_⟩) HS0 ?_
  rotate_left
  · intro W hW; (try dsimp only at hW); go_simp; try (with_reducible rfl)
  (try simp only [List.getElem_toArray, List.getElem_cons_succ, List.getElem_cons_zero, Act.put, List.setIfInBounds_toArray, List.set_cons_zero, List.set_cons_succ])
  refine wpAnyH_take (i := 8) (v := ?_) rfl (by kernel_rfl) (by kernel_rfl) (by kernel_rfl) (fun _ _ _ h => h) (Or.inl ⟨by rfl, ?_⟩) HS0 ?_
  rotate_left
  · intro W hW; (try dsimp only at hW); go_simp; try (with_reducible rfl)
  (try simp only [List.getElem_toArray, List.getElem_cons_succ, List.getElem_cons_zero, Act.put, List.setIfInBounds_toArray, List.set_cons_zero, List.set_cons_succ])
  refine wpAnyH_take (i := 10) (v := ?_) rfl (by kernel_rfl) (by kernel_rfl) (by kernel_rfl) (fun _ _ _ h => h) (Or.inl ⟨by rfl, ?_⟩) HS0 ?_
  rotate_left
  · intro W hW; (try dsimp only at hW); go_simp; try (with_reducible rfl)
  (try simp only [List.getElem_toArray, List.getElem_cons_succ, List.getElem_cons_zero, Act.put, List.setIfInBounds_toArray, List.set_cons_zero, List.set_cons_succ])
  refine wpAnyH_take (i := 11) (v := ?_) rfl (by kernel_rfl) (by kernel_rfl) (by kernel_rfl) (fun _ _ _ h => h) (Or.inl ⟨by rfl, ?_⟩) HS0 ?_
  rotate_left
  · intro W hW; (try dsimp only at hW); go_simp; try (with_reducible rfl)
  (try simp only [List.getElem_toArray, List.getElem_cons_succ, List.getElem_cons_zero, Act.put, List.setIfInBounds_toArray, List.set_cons_zero, List.set_cons_succ])
  refine wpAnyH_take (i := 12) (v := ?_) rfl (by kernel_rfl) (by kernel_rfl) (by kernel_rfl) (fun _ _ _ h => h) (Or.inl ⟨by rfl, ?_⟩) HS0 ?_
  rotate_left
  · intro W hW; (try dsimp only at hW); go_simp; try (with_reducible rfl)
  (try simp only [List.getElem_toArray, List.getElem_cons_succ, List.getElem_cons_zero, Act.put, List.setIfInBounds_toArray, List.set_cons_zero, List.set_cons_succ])
  refine wpAnyH_take (i := 13) (v := ?_) rfl (by kernel_rfl) (by kernel_rfl) (by kernel_rfl) (fun _ _ _ h => h) (Or.inl ⟨by rfl, ?_⟩) HS0 ?_
  rotate_left
  · intro W hW; (try dsimp only at hW); go_simp; try (with_reducible rfl)
  (try simp only [List.getElem_toArray, List.getElem_cons_succ, List.getElem_cons_zero, Act.put, List.setIfInBounds_toArray, List.set_cons_zero, List.set_cons_succ])
  refine run_one (i := 9) (by kernel_rfl) rfl rfl ?_
  intro K hK
  go_simp
  refine (HM1.out _ HS0.1).mono ?_
  rintro e w8 ⟨A8, c8, l8, rfl, hn8, hb8⟩
  refine hK.out _ _ (HKS.out _ (below_next HS0.1 hb8)) ?_
  clear hK K
  have HSP := HS0
  clear HS0
  intro HS0
  refine run_one (i := 14) (by kernel_rfl) rfl rfl ?_
  intro K hK
  go_simp
  refine (HM2.out _ HS0.1).mono ?_
  rintro e w9 ⟨A9, c9, l9, rfl, hn9, hb9⟩
  refine hK.out _ _ (HKS.out _ (below_next HS0.1 hb9)) ?_
  clear hK K
  have HSP := HS0
  clear HS0
  intro HS0
  refine wpAnyH_take (i := 15) (v := ?_) rfl (by kernel_rfl) (by kernel_rfl) (by kernel_rfl) (fun _ _ _ h => h) (Or.inl ⟨by rfl, ?_⟩) HS0 ?_
  rotate_left
  · intro W hW; (try dsimp only at hW); go_simp; try (with_reducible rfl)
  (try simp only [List.getElem_toArray, List.getElem_cons_succ, List.getElem_cons_zero, Act.put, List.setIfInBounds_toArray, List.set_cons_zero, List.set_cons_succ])
  refine wpAnyH_done (by kernel_rfl) ?_ _
  simp only [LastQ]
  have HF := Lib.hid (fun W (hf : Fr (fun i => i = w.heap.size + 1 + 1) w9 W) => jf_ret (HX0.out.on HS0.1) (jf_mk (b := !(ba == bb)) (hn8.on hb9) hn9) (below_next HST0.out.below HS0.1) (by omega) hf)
  obtain ⟨k0, k1, k2, z0, z1, z2, hlt⟩ := (HX0.out.on HS0.1).facts
  clear HS0 HSP hb8 hb9 hn8 hn9
  go_simp
  go_wp2
  refine bodyPost_ret (v := .agg #[.bool (!(ba == bb)), .slice A8 l8.length c8, .slice A9 l9.length c9]) (by simp [results, Tryz.results66, go_sem, k0, k1, k2]) rfl ⟨_, rfl, HF.out _ (fr3 _ _ _)⟩

end Go.Proofs.YtlkjgjojahjapaaGreatDoor
