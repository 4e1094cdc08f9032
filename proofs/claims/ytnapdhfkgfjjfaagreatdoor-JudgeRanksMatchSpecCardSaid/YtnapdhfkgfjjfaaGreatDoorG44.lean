import Derived.Test.YtnapdhfkgfjjfaaGreatDoorG43
import Derived.Test.YtnapdhfkgfjjfaaGreatDoorJRatio
import Derived.Test.YtnapdhfkgfjjfaaGreatDoorG10
import Derived.Test.YtnapdhfkgfjjfaaGreatDoorJRnkW
import Derived.Test.YtnapdhfkgfjjfaaGreatDoorG25
/- Package judge: fractions as rational numbers: plus, opposite, times, over, lowest, compare, ratio. -/
namespace Go.Proofs.YtnapdhfkgfjjfaaGreatDoor
open Go Go.RowKit Go.Proofs

/-- a value that is a fraction with the value q, its parts below W64^n -/
def JQ (w : World) (v : Value) (q : Rat) (n : Nat) : Prop := ∃ b x y, JF w v b x y ∧ mkRat (sg b x) y = q ∧ x < W64 ^ n ∧ y < W64 ^ n ∧ 0 < y
theorem JQ.on {w w' : World} {v : Value} {q : Rat} {n : Nat} (h : JQ w v q n) (hb : Below w.heap.size w w') : JQ w' v q n := by
  obtain ⟨b, x, y, h1, h2⟩ := h
  exact ⟨b, x, y, h1.on hb, h2⟩
theorem W64_mono {x n m : Nat} (h : x < W64 ^ n) (hm : n ≤ m) : x < W64 ^ m := Nat.lt_of_lt_of_le h (Nat.pow_le_pow_right (by unfold W64; omega) hm)
theorem JQ.mono {w : World} {v : Value} {q : Rat} {n m : Nat} (h : JQ w v q n) (hm : n ≤ m) : JQ w v q m := by
  obtain ⟨b, x, y, h1, h2, h3, h4, h5⟩ := h
  exact ⟨b, x, y, h1, h2, W64_mono h3 hm, W64_mono h4 hm, h5⟩
theorem JQ.shape {w : World} {v : Value} {q : Rat} {n : Nat} (h : JQ w v q n) : ∃ b A1 c1 l1 A2 c2 l2, v = .agg #[.bool b, .slice A1 (l1 : List Nat).length c1, .slice A2 (l2 : List Nat).length c2] := by
  obtain ⟨b, x, y, ⟨A1, c1, l1, A2, c2, l2, h1, _⟩, _⟩ := h
  exact ⟨b, A1, c1, l1, A2, c2, l2, h1⟩
theorem JQ.of {w : World} {v : Value} {q : Rat} {n : Nat} (h : JF w v (frS q) (frN q) q.den) (h1 : frN q < W64 ^ n) (h2 : q.den < W64 ^ n) : JQ w v q n := ⟨_, _, _, h, fr_eq q, h1, h2, q.den_pos⟩
def JQPost (q : Rat) (n : Nat) (w : World) (e : Ending) (w' : World) : Prop := ∃ v, e = .returned v ∧ JQ w' v q n ∧ Below w.heap.size w w'
theorem W64_mul {a b s t : Nat} (h1 : a < W64 ^ s) (h2 : b < W64 ^ t) : a * b < W64 ^ (s + t) := by rw [Nat.pow_add]; exact Nat.mul_lt_mul'' h1 h2
theorem pl_lt2 {b1 b2 : Bool} {x1 y1 x2 y2 n m : Nat} (hx1 : x1 < W64 ^ n) (hy1 : y1 < W64 ^ n) (hx2 : x2 < W64 ^ m) (hy2 : y2 < W64 ^ m) : plX b1 x1 y1 b2 x2 y2 < W64 ^ (n + m + 1) := by
  have h1 : x1 * y2 < W64 ^ (n + m) := W64_mul hx1 hy2
  have h2 : x2 * y1 < W64 ^ (n + m) := by rw [Nat.mul_comm]; exact W64_mul hy1 hx2
  rw [Nat.pow_succ]
  generalize W64 ^ (n + m) = P at *
  have hP : P * 2 ≤ P * W64 := Nat.mul_le_mul_left _ (by unfold W64; omega)
  unfold plX
  split
  · omega
  · split <;> omega
theorem jPlusQ (n m : Nat) (u v : Value) (p q : Rat) (w : World) (hn : n ≤ 200000) (hm : m ≤ 200000) (hu : JQ w u p n) (hv : JQ w v q m) : Calls Tryz.prog 78 #[u, v] w (JQPost (p + q) (n + m + 1) w) := by
  obtain ⟨b1, x1, y1, h1, e1, g1, k1, p1⟩ := hu
  obtain ⟨b2, x2, y2, h2, e2, g2, k2, p2⟩ := hv
  refine (jPlus_any (n + m) u v b1 b2 x1 y1 x2 y2 w (by omega) h1 h2 (W64_mono g1 (by omega)) (W64_mono k1 (by omega)) (W64_mono g2 (by omega)) (W64_mono k2 (by omega))).mono fun e w' ⟨z, he, hz, hb⟩ => ⟨z, he, ⟨_, _, _, hz, ?_, pl_lt2 g1 k1 g2 k2, W64_mono (W64_mul k1 k2) (by omega), Nat.mul_pos p1 p2⟩, hb⟩
  rw [pl_eq _ _ _ _ p1 p2, e1, e2]
theorem jOppQ (n : Nat) (u : Value) (p : Rat) (w : World) (hu : JQ w u p n) : Calls Tryz.prog 79 #[u] w (JQPost (-p) n w) := by
  obtain ⟨b1, x1, y1, h1, e1, g1, k1, p1⟩ := hu
  refine (jOpp_any u b1 x1 y1 w h1).mono fun e w' ⟨z, he, hz, hb⟩ => ⟨z, he, ⟨_, _, _, hz, ?_, g1, k1, p1⟩, hb⟩
  rw [opp_eq, e1]
theorem jTimesQ (n m : Nat) (u v : Value) (p q : Rat) (w : World) (hn : n ≤ 200000) (hm : m ≤ 200000) (hu : JQ w u p n) (hv : JQ w v q m) : Calls Tryz.prog 59 #[u, v] w (JQPost (p * q) (n + m) w) := by
  obtain ⟨b1, x1, y1, h1, e1, g1, k1, p1⟩ := hu
  obtain ⟨b2, x2, y2, h2, e2, g2, k2, p2⟩ := hv
  refine (jTimes_any (n + m) u v b1 b2 x1 y1 x2 y2 w (by omega) h1 h2 (W64_mono g1 (by omega)) (W64_mono k1 (by omega)) (W64_mono g2 (by omega)) (W64_mono k2 (by omega))).mono fun e w' ⟨z, he, hz, hb⟩ => ⟨z, he, ⟨_, _, _, hz, ?_, W64_mul g1 g2, W64_mul k1 k2, Nat.mul_pos p1 p2⟩, hb⟩
  rw [tm_eq, e1, e2]
theorem jOverQ (n m : Nat) (u v : Value) (p q : Rat) (w : World) (hn : n ≤ 200000) (hm : m ≤ 200000) (hu : JQ w u p n) (hv : JQ w v q m) (hq : q ≠ 0) : Calls Tryz.prog 87 #[u, v] w (JQPost (p / q) (n + m) w) := by
  obtain ⟨b1, x1, y1, h1, e1, g1, k1, p1⟩ := hu
  obtain ⟨b2, x2, y2, h2, e2, g2, k2, p2⟩ := hv
  have hx2 : 0 < x2 := by
    rcases Nat.eq_zero_or_pos x2 with h0 | h0
    · subst h0
      rw [low_zero] at e2
      exact absurd e2.symm hq
    · exact h0
  refine (jOver_any (n + m) u v b1 b2 x1 y1 x2 y2 w (by omega) h1 h2 (W64_mono g1 (by omega)) (W64_mono k1 (by omega)) (W64_mono g2 (by omega)) (W64_mono k2 (by omega))).mono fun e w' ⟨z, he, hz, hb⟩ => ⟨z, he, ⟨_, _, _, hz, ?_, W64_mul g1 k2, W64_mul k1 g2, Nat.mul_pos p1 hx2⟩, hb⟩
  rw [ov_eq _ _ _ hx2 p2, e1, e2]
theorem jLowestQ (n : Nat) (u : Value) (p : Rat) (w : World) (hn : n ≤ 900000) (hu : JQ w u p n) : Calls Tryz.prog 88 #[u] w (JFPost (frS p) (frN p) p.den w) := by
  obtain ⟨b1, x1, y1, h1, e1, g1, k1, p1⟩ := hu
  have := jLowest_any u b1 x1 y1 n w h1 g1 k1 hn p1
  rw [e1] at this
  exact this
theorem jCompareQ (n m : Nat) (u v : Value) (p q : Rat) (w : World) (hn : n ≤ 200000) (hm : m ≤ 200000) (hu : JQ w u p n) (hv : JQ w v q m) : Calls Tryz.prog 45 #[u, v] w fun e w' => e = .returned (.int .i64 (ordQ p q)) ∧ Below w.heap.size w w' := by
  obtain ⟨b1, x1, y1, h1, e1, g1, k1, p1⟩ := hu
  obtain ⟨b2, x2, y2, h2, e2, g2, k2, p2⟩ := hv
  have := jCompare_any (n + m) u v b1 b2 x1 y1 x2 y2 w (by omega) h1 h2 (W64_mono g1 (by omega)) (W64_mono k1 (by omega)) (W64_mono g2 (by omega)) (W64_mono k2 (by omega)) p1 p2
  rw [e1, e2] at this
  exact this
theorem jRatioQ (n : Nat) (u : Value) (p : Rat) (w : World) (hn : n ≤ 1000) (hu : JQ w u p n) (htab : Tab w.heap.size w) : Calls Tryz.prog 52 #[u] w fun e w' => e = .returned (.tuple #[ratOf (rtT p), .int .i64 (rtC p)]) ∧ Below w.heap.size w w' := by
  obtain ⟨b1, x1, y1, h1, e1, g1, k1, p1⟩ := hu
  have := jRatio_any u b1 x1 y1 n w h1 g1 k1 hn p1 htab
  rw [e1] at this
  exact this
theorem jWholeQ (k : Int) (w : World) (h0 : -9223372036854775807 ≤ k) (h1 : k ≤ 9223372036854775807) : Calls Tryz.prog 58 #[.int .i64 k] w (JQPost (k : Rat) 1 w) := by
  refine (jWhole_any k w h0 h1).mono fun e w' ⟨z, he, hz, hb⟩ => ⟨z, he, ⟨_, _, _, hz, ?_, W64_gt _ (by omega), W64_gt _ (by omega), by omega⟩, hb⟩
  rw [sg_self]
  exact Rat.mkRat_self (k : Rat)

/-- box B holds a fraction with the value p -/
def JVQ (w : World) (B : Nat) (p : Rat) (n : Nat) : Prop := ∃ b A1 c1 l1 A2 c2 l2, w.heap[B]? = some (.cells #[.bool b, .slice A1 (l1 : List Nat).length c1, .slice A2 (l2 : List Nat).length c2] 69 (0, 0)) ∧ JQ w (.agg #[.bool b, .slice A1 l1.length c1, .slice A2 l2.length c2]) p n
theorem JVQ.on {w w' : World} {B : Nat} {p : Rat} {n : Nat} (h : JVQ w B p n) (hb : Below w.heap.size w w') : JVQ w' B p n := by
  obtain ⟨b, A1, c1, l1, A2, c2, l2, e, h1⟩ := h
  exact ⟨b, A1, c1, l1, A2, c2, l2, (hb.block B (heap_lt e)).trans e, h1.on hb⟩
theorem JVQ.lt {w : World} {B : Nat} {p : Rat} {n : Nat} (h : JVQ w B p n) : B < w.heap.size := by
  obtain ⟨b, A1, c1, l1, A2, c2, l2, e, h1⟩ := h
  exact heap_lt e
/-- what lies in such a box, as a value -/
theorem JVQ.get {w : World} {B : Nat} {p : Rat} {n : Nat} (h : JVQ w B p n) : ∃ b A1 c1 l1 A2 c2 l2, (∀ W, Below w.heap.size w W → W.cell? ⟨B, 0, none⟩ = some (.bool b) ∧ W.cell? ⟨B, 1, none⟩ = some (.slice A1 (l1 : List Nat).length c1) ∧ W.cell? ⟨B, 2, none⟩ = some (.slice A2 (l2 : List Nat).length c2) ∧ W.frozen? ⟨B, 0, none⟩ = false ∧ W.frozen? ⟨B, 1, none⟩ = false ∧ W.frozen? ⟨B, 2, none⟩ = false ∧ B < W.heap.size) ∧ JQ w (.agg #[.bool b, .slice A1 l1.length c1, .slice A2 l2.length c2]) p n := by
  obtain ⟨b, A1, c1, l1, A2, c2, l2, e, h1⟩ := h
  refine ⟨b, A1, c1, l1, A2, c2, l2, fun W hW => ?_, h1⟩
  have e' := (hW.block B (heap_lt e)).trans e
  exact ⟨by rw [cellsAt e']; rfl, by rw [cellsAt e']; rfl, by rw [cellsAt e']; rfl, frozenAt e' 0, frozenAt e' 1, frozenAt e' 2, heap_lt e'⟩
/-- a value laid in a box of its own -/
theorem JVQ.laid {w : World} {b : Bool} {A1 A2 : Option Addr} {c1 c2 : Nat} {l1 l2 : List Nat} {p : Rat} {n : Nat} (h : JQ w (.agg #[.bool b, .slice A1 l1.length c1, .slice A2 l2.length c2]) p n) : JVQ (w.alloc (.cells #[.bool b, .slice A1 l1.length c1, .slice A2 l2.length c2] 69)) w.heap.size p n :=
  ⟨b, A1, c1, l1, A2, c2, l2, alloc_at _ _ _ rfl, h.on ((Below.refl _ w).alloc (Nat.le_refl _) _)⟩
/-- a value stored into a box -/
theorem JVQ.set {w : World} {B : Nat} {b b0 : Bool} {A1 A2 : Option Addr} {c1 c2 : Nat} {l1 l2 : List Nat} {B1 B2 : Option Addr} {d1 d2 e1 e2 : Nat} {p : Rat} {n : Nat} (hX : w.heap[B]? = some (.cells #[.bool b0, .slice B1 d1 e1, .slice B2 d2 e2] 69 (0, 0))) (h : JQ w (.agg #[.bool b, .slice A1 l1.length c1, .slice A2 l2.length c2]) p n) :
    JVQ (((w.setCell ⟨B, 0, none⟩ (.bool b)).setCell ⟨B, 1, none⟩ (.slice A1 l1.length c1)).setCell ⟨B, 2, none⟩ (.slice A2 l2.length c2)) B p n := by
  obtain ⟨s, x, y, ⟨A3, c3, l3, A4, c4, l4, e, h1, h2⟩, h3⟩ := h
  simp only [Value.agg.injEq, Array.mk.injEq, List.cons.injEq, Value.bool.injEq, Value.slice.injEq, and_true] at e
  obtain ⟨rfl, ⟨rfl, g1, rfl⟩, ⟨rfl, g2, rfl⟩⟩ := e
  rw [g1, g2]
  obtain ⟨A5, c5, l5, A6, c6, l6, e5, h5, h6⟩ := jvar_set (b := b) hX (fun z => ⟨by simp, by simp, by simp⟩) h1 h2
  exact ⟨b, A5, c5, l5, A6, c6, l6, e5, b, x, y, ⟨A5, c5, l5, A6, c6, l6, rfl, h5, h6⟩, h3⟩
/-- stored into the box of the result -/
theorem jq_ret {w0 w W : World} {B : Nat} {v : Value} {p : Rat} {n : Nat} (hB : JBox w B) (h : JQ w v p n) (hbl : Below w0.heap.size w0 w) (h0 : w0.heap.size ≤ B) (hf : Fr (fun i => i = B) w W) : JQ W v p n ∧ Below w0.heap.size w0 W := by
  obtain ⟨s, x, y, h1, h2⟩ := h
  have := jf_ret hB h1 hbl h0 hf
  exact ⟨⟨s, x, y, this.1, h2⟩, this.2⟩
end Go.Proofs.YtnapdhfkgfjjfaaGreatDoor

/- One operation of a drawn region, where it comes up: what it does as a closed fact for the kernel. No program in sight. -/
namespace Go.Proofs.YtnapdhfkgfjjfaaGreatDoor
open Go Go.RowKit

section
variable {P : Program} {Q : Exit → Act → World → Prop}
/-- a call, by its contract -/
theorem wp_call {o : Oper} {a : Act} {w : World} {K : Act → World → Prop} {f : FuncId} {args : Array Value} {R : Ending → World → Prop} (hc : Calls P f args w R) (hrun : (execOp a.eval o).run P w = .ok (.enter f args) w)
    (h : ∀ e w', R e w' → ∃ v, e = .returned v ∧ K (a.put o.dst v) w') : o.wp P a w K Q := by
  unfold Oper.wp
  rw [hrun, Oper.upon_enter]
  refine hc.mono fun e w' hh => ?_
  obtain ⟨v, rfl, hk⟩ := h e w' hh
  exact hk
/-- an operation that yields a value -/
theorem wp_val {o : Oper} {a : Act} {w w' : World} {K : Act → World → Prop} {v : Value} (hrun : (execOp a.eval o).run P w = .ok (.value v) w') (h : K (a.put o.dst v) w') : o.wp P a w K Q := by
  unfold Oper.wp
  rw [hrun, Oper.upon_value]
  exact h
theorem lastQ_of {o : Oper} {a : Act} {w : World} (h : o.wp P a w (fun a w => Q .normal a w) Q) : LastQ P o Q .normal a w := h
end
end Go.Proofs.YtnapdhfkgfjjfaaGreatDoor

/- Package judge: Worse. Printed by gen_jwor.py. -/
namespace Go.Proofs.YtnapdhfkgfjjfaaGreatDoor
open Go Go.RowKit Go.Proofs

/-- what Worse returns -/
def wrB (a b : List Int) (c d : List UInt8) : Bool := decide (ordQ (mkRat (cntGe (rkS a b) (rkT a b) : Nat) (rkT a b).length) (ratX c d) ≤ 0)
def wrV (a b : List Int) (c d : List UInt8) : Value := if smC a b 40 ≠ 0 then .tuple #[.bool false, .int .i64 (smC a b 40)] else if shC .between c d ≠ 0 then .tuple #[.bool false, .int .i64 (shC .between c d)] else .tuple #[.bool (wrB a b c d), .int .i64 0]
theorem wrV_bad {a b : List Int} {c d : List UInt8} (h : smC a b 40 ≠ 0) : wrV a b c d = .tuple #[.bool false, .int .i64 (smC a b 40)] := by unfold wrV; rw [if_pos h]
theorem wrV_bad2 {a b : List Int} {c d : List UInt8} (h : smC a b 40 = 0) (h2 : shC .between c d ≠ 0) : wrV a b c d = .tuple #[.bool false, .int .i64 (shC .between c d)] := by unfold wrV; rw [if_neg (by omega), if_pos h2]
theorem wrV_ok {a b : List Int} {c d : List UInt8} (h : smC a b 40 = 0) (h2 : shC .between c d = 0) : wrV a b c d = .tuple #[.bool (wrB a b c d), .int .i64 0] := by unfold wrV; rw [if_neg (by omega), if_neg (by omega)]
theorem rk_pos (a b : List Int) : 0 < (rkT a b).length := by
  have h := chs_prefix (a.map (scr (a ++ b))) (b.map (scr (a ++ b)))
  have e : rkT a b = chs (a.map (scr (a ++ b)) ++ b.map (scr (a ++ b))) (a.map (scr (a ++ b))).length := by
    unfold rkT scrs
    rw [List.map_append, List.length_map]
  rw [e]
  exact List.length_pos_of_mem h
theorem rk_bd (a b : List Int) (h : a.length + b.length ≤ 40) : (rkT a b).length ≤ 1099511627776 ∧ cntLe (rkS a b) (rkT a b) ≤ 1099511627776 ∧ cntGe (rkS a b) (rkT a b) ≤ 1099511627776 := by
  have h1 := chs_length_le (scrs (a ++ b)) a.length
  have h2 := two_pow (j := (scrs (a ++ b)).length) (by rw [scrs_len]; simp; omega)
  have h3 : cntLe (rkS a b) (rkT a b) ≤ (rkT a b).length := List.countP_le_length
  have h4 : cntGe (rkS a b) (rkT a b) ≤ (rkT a b).length := List.countP_le_length
  unfold rkT at *
  omega
set_option maxHeartbeats 8000000 in
set_option maxRecDepth 100000 in
theorem jWorse_any (A B : Option Addr) (ca cb : Nat) (Sc Sd : ByteArray) (a b : List Int) (c d : List UInt8) (w : World) (hr1 : Rd w 0 w.heap.size 1 A a.length (ints a)) (hr2 : Rd w 0 w.heap.size 1 B b.length (ints b)) (hc1 : a.length ≤ ca) (hc2 : b.length ≤ cb) (hm1 : a.length ≤ 4000000000000000000) (hm2 : b.length ≤ 4000000000000000000) (hSc : Sc.data.toList = c) (hSd : Sd.data.toList = d) (hc : Sc.size ≤ 9223372036854775800) (hd : Sd.size ≤ 9223372036854775800) :
    Calls Tryz.prog 16 #[.slice A a.length ca, .slice B b.length cb, .agg #[.string Sc, .string Sd]] w fun e w' => e = .returned (wrV b a c d) ∧ Below w.heap.size w w' := by
  obtain ⟨W0, hW0⟩ : ∃ W0, W0 = w.alloc (.cells #[.string Sc, .string Sd] 31) := ⟨_, rfl⟩
  have HST0 := Lib.hid (show St w W0 [(w.heap.size, .cells #[.string Sc, .string Sd] 31 (0, 0))] by rw [hW0]; exact (St.start w).alloc _ _ rfl)
  have HP := Lib.hid (show ∀ X, Below W0.heap.size W0 X → X.cell? ⟨w.heap.size, 0, none⟩ = some (.string Sc) ∧ X.cell? ⟨w.heap.size, 1, none⟩ = some (.string Sd) from fun X hX => ⟨(HST0.out.call hX).cell 0 0 rfl rfl, (HST0.out.call hX).cell 0 1 rfl rfl⟩)
  have HJ1 := Lib.hid (fun W (hW : Below w.heap.size w W) => jRanks_any B A cb ca b a W (hr2.old hW) (hr1.old hW) hc2 hc1 hm2 hm1)
  have HVB := Lib.hid (wrV_bad (a := b) (b := a) (c := c) (d := d))
  have HVB2 := Lib.hid (wrV_bad2 (a := b) (b := a) (c := c) (d := d))
  have HVO := Lib.hid (wrV_ok (a := b) (b := a) (c := c) (d := d))
  have hok := smC_ok (a := b) (b := a) (m := 40)
  have hbd := rk_bd b a
  have hps := rk_pos b a
  have HBE := Lib.hid (show wrB b a c d = decide (ordQ (mkRat (sg false (cntGe (rkS b a) (rkT b a))) (rkT b a).length) (mkRat (sg (frS (ratX c d)) (frN (ratX c d))) (ratX c d).den) ≤ 0) by rw [fr_eq]; rfl)
  unfold rkP rkR at HJ1
  obtain ⟨V, hV⟩ : ∃ V, V = wrV b a c d := ⟨_, rfl⟩
  rw [← hV] at HVB HVB2 HVO ⊢
  obtain ⟨C, hC⟩ : ∃ C, C = smC b a 40 := ⟨_, rfl⟩
  rw [← hC] at HJ1 HVB HVB2 HVO hok
  obtain ⟨Vl, hVl⟩ : ∃ V, V = rkS b a - (b.length : Int) * (b.length : Int) := ⟨_, rfl⟩
  obtain ⟨Lo, hLo⟩ : ∃ V, V = cntLe (rkS b a) (rkT b a) := ⟨_, rfl⟩
  obtain ⟨Hi, hHi⟩ : ∃ V, V = cntGe (rkS b a) (rkT b a) := ⟨_, rfl⟩
  obtain ⟨Al, hAl⟩ : ∃ V, V = (rkT b a).length := ⟨_, rfl⟩
  rw [← hVl, ← hLo, ← hHi, ← hAl] at HJ1
  rw [← hHi, ← hAl] at HBE
  rw [← hLo, ← hHi, ← hAl] at hbd
  rw [← hAl] at hps
  clear hr1 hr2 hC hV hVl hLo hHi hAl
  by_cases hz : C = 0
  · obtain ⟨hN0, hM0, hNM⟩ := hok hz
    obtain ⟨g1, g2, g3⟩ := hbd (by omega)
    by_cases h2 : shC .between c d = 0
    · have HSR := Lib.hid (fun W => (show Calls Tryz.prog 43 #[.agg #[.string Sc, .string Sd], .func (.func 44) #[] #[]] W _ from jShort_good .between Sc Sd c d W hSc hSd hc hd h2))
      obtain ⟨y1, y2, y3, y4⟩ := shC_small h2
      have hfs : frS (ratX c d) = false := y4
      rw [hfs] at HBE
      obtain ⟨x, hx⟩ : ∃ x, x = frN (ratX c d) := ⟨_, rfl⟩
      obtain ⟨y, hy⟩ : ∃ y, y = (ratX c d).den := ⟨_, rfl⟩
      rw [← hx, ← hy] at HSR HBE
      rw [← hx] at y1
      rw [← hy] at y2 y3
      obtain ⟨k, hk⟩ : ∃ k, k = ordQ (mkRat (sg false Hi) Al) (mkRat (sg false x) y) := ⟨_, rfl⟩
      rw [← hk] at HBE
      have HCM := Lib.hid (fun W u v (hu : JF W u false Hi Al) (hv : JF W v false x y) => jCompare_any 1 u v false false Hi Al x y W (by omega) hu hv (by unfold W64; omega) (by unfold W64; omega) (by unfold W64; omega) (by unfold W64; omega) hps (by omega))
      rw [← hk] at HCM
      have HV := Lib.hid (show V = .tuple #[.bool (decide (k ≤ 0)), .int .i64 0] by rw [HVO.out hz h2, HBE.out])
      have HOF1 := Lib.hid (fun W => (show Calls Tryz.prog 38 #[.int .i64 (Hi : Nat)] W (NatPost Hi W) from by have := natOf_any (Hi : Int) W (by omega); rwa [Int.toNat_natCast] at this))
      have HOF2 := Lib.hid (fun W => (show Calls Tryz.prog 38 #[.int .i64 (Al : Nat)] W (NatPost Al W) from by have := natOf_any (Al : Int) W (by omega); rwa [Int.toNat_natCast] at this))
      have tz : (C != 0) = false := by rw [hz]; rfl
      have HCZ := Lib.hid hz
      clear HVB HVB2 HVO HBE hk hx hy h2 hz hok hbd hN0 hM0 hNM hfs y4 hSc hSd hc hd hc1 hc2 hm1 hm2 y1 y2 y3 g1 g2 g3 hps
      go_enter Tryz.func16, Tryz.ntmps16
      go_wp2_with fail
      rw [← hW0]
      clear hW0
      (with_reducible refine (HJ1.out W0 HST0.out.below).mono ?_)
      rintro e w1 (⟨hne, _⟩ | ⟨hz, rfl, hb1⟩)
      · exact absurd HCZ.out hne
      obtain ⟨W2, hW2⟩ : ∃ W2, W2 = w1.alloc (.cells #[.int .i64 Vl, .int .i64 (Lo : Nat), .int .i64 (Hi : Nat), .int .i64 (Al : Nat)] 24) := ⟨_, rfl⟩
      obtain ⟨B1, hB1⟩ : ∃ B, B = w1.heap.size := ⟨_, rfl⟩
      have hb12 : Below w1.heap.size w1 W2 := by rw [hW2]; exact (Below.refl _ w1).alloc (Nat.le_refl _) _
      have HX1 := Lib.hid (show W2.heap[B1]? = some (.cells #[.int .i64 Vl, .int .i64 (Lo : Nat), .int .i64 (Hi : Nat), .int .i64 (Al : Nat)] 24 (0, 0)) by rw [hW2, hB1]; exact alloc_at _ _ _ rfl)
      have HB2 := Lib.hid (below_next hb1 hb12)
      obtain ⟨o0, o1⟩ := HP.out W2 HB2.out
      rw [hW2] at o0 o1
      clear hb1 hb12 hz
      go_wp2_with fail
      rw [← hW2, ← hB1]
      clear hW2 o0 o1 hB1
      (with_reducible refine (HSR.out _).mono ?_)
      rintro e w3 ⟨A1, c1, l1, A2, c2, l2, rfl, h1, h2, hb3⟩
      obtain ⟨W4, hW4⟩ : ∃ W4, W4 = w3.alloc (.cells #[.bool false, .slice A1 l1.length c1, .slice A2 l2.length c2] 69) := ⟨_, rfl⟩
      obtain ⟨B2, hB2⟩ : ∃ B, B = w3.heap.size := ⟨_, rfl⟩
      have hb34 : Below w3.heap.size w3 W4 := by rw [hW4]; exact (Below.refl _ w3).alloc (Nat.le_refl _) _
      have HJ4 := Lib.hid (show JF W4 (.agg #[.bool false, .slice A1 l1.length c1, .slice A2 l2.length c2]) false x y from jf_mk (h1.on hb34) (h2.on hb34))
      have HX2 := Lib.hid (show W4.heap[B2]? = some (.cells #[.bool false, .slice A1 l1.length c1, .slice A2 l2.length c2] 69 (0, 0)) by rw [hW4, hB2]; exact alloc_at _ _ _ rfl)
      have HX14 := Lib.hid (((below_next hb3 hb34).block _ (heap_lt HX1.out)).trans HX1.out)
      have HB4 := Lib.hid (below_next HST0.out.below (below_next HB2.out (below_next hb3 hb34)))
      have HKS := Lib.hid (show ∀ X, Below W4.heap.size W4 X → (fun X => Below W4.heap.size W4 X ∧ X.cell? ⟨B1, 2, none⟩ = some (.int .i64 (Hi : Nat)) ∧ X.cell? ⟨B1, 3, none⟩ = some (.int .i64 (Al : Nat)) ∧ X.cell? ⟨B2, 0, none⟩ = some (.bool false) ∧ X.cell? ⟨B2, 1, none⟩ = some (.slice A1 l1.length c1) ∧ X.cell? ⟨B2, 2, none⟩ = some (.slice A2 l2.length c2)) X from fun X hX => ⟨hX, by rw [cellsAt ((hX.block _ (heap_lt HX14.out)).trans HX14.out)]; rfl, by rw [cellsAt ((hX.block _ (heap_lt HX14.out)).trans HX14.out)]; rfl, by rw [cellsAt ((hX.block _ (heap_lt HX2.out)).trans HX2.out)]; rfl, by rw [cellsAt ((hX.block _ (heap_lt HX2.out)).trans HX2.out)]; rfl, by rw [cellsAt ((hX.block _ (heap_lt HX2.out)).trans HX2.out)]; rfl⟩)
      clear h1 h2 hb3 hb34
      go_wp2_with fail
      rw [← hW4, ← hB2]
      clear hW4 hB2
      refine wp_region_noPanic ?_
      refine wp_region_held_drew (S := (fun X => Below W4.heap.size W4 X ∧ X.cell? ⟨B1, 2, none⟩ = some (.int .i64 (Hi : Nat)) ∧ X.cell? ⟨B1, 3, none⟩ = some (.int .i64 (Al : Nat)) ∧ X.cell? ⟨B2, 0, none⟩ = some (.bool false) ∧ X.cell? ⟨B2, 1, none⟩ = some (.slice A1 l1.length c1) ∧ X.cell? ⟨B2, 2, none⟩ = some (.slice A2 l2.length c2))) (by kernel_rfl) (HKS.out _ (Below.refl _ W4).drew) (fun HS0 => ?_)
      have hbx0 : Below W4.heap.size W4 W4.drew := (Below.refl _ _).drew
      obtain ⟨Xx0, hXx0⟩ : ∃ X, X = W4.drew := ⟨_, rfl⟩
      rw [← hXx0] at hbx0 HS0 ⊢
      have HBx0 := Lib.hid hbx0
      clear hbx0 hXx0
      refine wpAnyH_take (i := 0) (v := ?_) rfl (by kernel_rfl) (by kernel_rfl) (by kernel_rfl) (fun _ _ _ h => h) (Or.inl ⟨by rfl, ?_⟩) HS0 ?_
      rotate_left
      · intro W hW; (try dsimp only at hW); go_simp; try (with_reducible rfl)

      refine wpAnyH_take (i := 1) (v := ?_) rfl (by kernel_rfl) (by kernel_rfl) (by kernel_rfl) (fun _ _ _ h => h) (Or.inl ⟨by rfl, ?_⟩) HS0 ?_
      rotate_left
      · intro W hW; (try dsimp only at hW); go_simp; try (with_reducible rfl)

      refine wpAnyH_take (i := 3) (v := ?_) rfl (by kernel_rfl) (by kernel_rfl) (by kernel_rfl) (fun _ _ _ h => h) (Or.inl ⟨by rfl, ?_⟩) HS0 ?_
      rotate_left
      · intro W hW; (try dsimp only at hW); go_simp; try (with_reducible rfl)

      refine wpAnyH_take (i := 4) (v := ?_) rfl (by kernel_rfl) (by kernel_rfl) (by kernel_rfl) (fun _ _ _ h => h) (Or.inl ⟨by rfl, ?_⟩) HS0 ?_
      rotate_left
      · intro W hW; (try dsimp only at hW); go_simp; try (with_reducible rfl)

      refine wpAnyH_take (i := 7) (v := ?_) rfl (by kernel_rfl) (by kernel_rfl) (by kernel_rfl) (fun _ _ _ h => h) (Or.inl ⟨by rfl, ?_⟩) HS0 ?_
      rotate_left
      · intro W hW; (try dsimp only at hW); go_simp; try (with_reducible rfl)

      clear HS0
      refine run_one (i := 2) (by kernel_rfl) rfl rfl ?_
      intro K hK
      go_simp
      (with_reducible refine (HOF1.out Xx0).mono ?_)
      rintro e Xx1 ⟨Ap, cp, lp, rfl, hnp, hbx1⟩
      have HBx1 := Lib.hid (below_next (HBx0.out) hbx1)
      refine hK.out _ _ (HKS.out _ HBx1.out) ?_
      clear hK K
      intro _

      refine run_one (i := 5) (by kernel_rfl) rfl rfl ?_
      intro K hK
      go_simp
      (with_reducible refine (HOF2.out Xx1).mono ?_)
      rintro e Xx2 ⟨Aq, cq, lq, rfl, hnq, hbx2⟩
      have HBx2 := Lib.hid (below_next (HBx1.out) hbx2)
      refine hK.out _ _ (HKS.out _ HBx2.out) ?_
      clear hK K
      intro _

      refine run_one (i := 6) (by kernel_rfl) rfl rfl ?_
      intro K hK
      go_simp
      (with_reducible refine (jOf_any _ _ _ _ _ _ _ _ Xx2 ((hnp).on hbx2) (hnq)).mono ?_)
      rintro e Xx3 ⟨v3, rfl, hvx3, hbx3⟩
      have HBx3 := Lib.hid (below_next (HBx2.out) hbx3)
      refine hK.out _ _ (HKS.out _ HBx3.out) ?_
      clear hK K
      intro _

      refine run_one (i := 8) (by kernel_rfl) rfl rfl ?_
      intro K hK
      go_simp
      (with_reducible refine (HCM.out Xx3 _ _ (hvx3) (HJ4.out.on (HBx3.out))).mono ?_)
      rintro e Xx4 ⟨rfl, hbx4⟩
      have HBx4 := Lib.hid (below_next (HBx3.out) hbx4)
      refine hK.out _ _ (HKS.out _ HBx4.out) ?_
      clear hK K
      intro _

      have HS0 := HKS.out _ (HBx4.out)
      refine wpAnyH_take (i := 9) (v := ?_) rfl (by kernel_rfl) (by kernel_rfl) (by kernel_rfl) (fun _ _ _ h => h) (Or.inl ⟨by rfl, ?_⟩) HS0 ?_
      rotate_left
      · intro W hW; (try dsimp only at hW); go_simp; try (with_reducible rfl)

      clear HS0
      have HS0 := HKS.out _ (HBx4.out)
      refine wpAnyH_take (i := 10) (v := ?_) rfl (by kernel_rfl) (by kernel_rfl) (by kernel_rfl) (fun _ _ _ h => h) (Or.inl ⟨by rfl, ?_⟩) HS0 ?_
      rotate_left
      · intro W hW; (try dsimp only at hW); go_simp; try (with_reducible rfl)

      clear HS0
      have HS0 := HKS.out _ (HBx4.out)
      refine wpAnyH_take (i := 11) (v := ?_) rfl (by kernel_rfl) (by kernel_rfl) (by kernel_rfl) (fun _ _ _ h => h) (Or.inl ⟨by rfl, ?_⟩) HS0 ?_
      rotate_left
      · intro W hW; (try dsimp only at hW); go_simp; try (with_reducible rfl)

      clear HS0
      refine wpAnyH_done (by kernel_rfl) ?_ _
      refine NoPanic.normal ?_
      go_wp2
      go_ret2
      exact ⟨by rw [HV.out]; rfl, below_next HB4.out (HBx4.out)⟩
    · have HSR := Lib.hid (fun W => (show Calls Tryz.prog 43 #[.agg #[.string Sc, .string Sd], .func (.func 44) #[] #[]] W _ from jShort_bad .between Sc Sd c d W hSc hSd hc hd h2))
      have HVE := Lib.hid (HVB2.out hz h2)
      obtain ⟨cc, hcc⟩ : ∃ z, z = shC .between c d := ⟨_, rfl⟩
      rw [← hcc] at HSR HVE h2
      have tz : (C != 0) = false := by rw [hz]; rfl
      have tc : (cc != 0) = true := by rw [bne_iff_ne]; exact h2
      have HCZ := Lib.hid hz
      clear HVB HVB2 HVO HBE hcc h2 hz hok hbd hN0 hM0 hNM hSc hSd hc hd hc1 hc2 hm1 hm2 g1 g2 g3 hps
      go_enter Tryz.func16, Tryz.ntmps16
      go_wp2_with fail
      rw [← hW0]
      clear hW0
      (with_reducible refine (HJ1.out W0 HST0.out.below).mono ?_)
      rintro e w1 (⟨hne, _⟩ | ⟨hz, rfl, hb1⟩)
      · exact absurd HCZ.out hne
      obtain ⟨W2, hW2⟩ : ∃ W2, W2 = w1.alloc (.cells #[.int .i64 Vl, .int .i64 (Lo : Nat), .int .i64 (Hi : Nat), .int .i64 (Al : Nat)] 24) := ⟨_, rfl⟩
      have hb12 : Below w1.heap.size w1 W2 := by rw [hW2]; exact (Below.refl _ w1).alloc (Nat.le_refl _) _
      have HB2 := Lib.hid (below_next hb1 hb12)
      obtain ⟨o0, o1⟩ := HP.out W2 HB2.out
      rw [hW2] at o0 o1
      clear hb1 hb12 hz
      go_wp2_with fail
      rw [← hW2]
      clear hW2 o0 o1
      (with_reducible refine (HSR.out _).mono ?_)
      rintro e w3 ⟨rfl, hb3⟩
      have HB3 := Lib.hid (fun o => (show Below w.heap.size w (w3.alloc o) from (below_next HST0.out.below (below_next HB2.out hb3)).alloc (below_next HST0.out.below (below_next HB2.out hb3)).size o))
      clear hb3
      go_wp2
      go_ret2
      exact ⟨by rw [HVE.out]; rfl, HB3.out _⟩
  · have HVE := Lib.hid (HVB.out hz)
    have tz : (C != 0) = true := by rw [bne_iff_ne]; exact hz
    have HNE := Lib.hid hz
    clear HVB HVB2 HVO HBE hz hok hbd hSc hSd hc hd hc1 hc2 hm1 hm2 hps
    go_enter Tryz.func16, Tryz.ntmps16
    go_wp2_with fail
    rw [← hW0]
    clear hW0
    (with_reducible refine (HJ1.out W0 HST0.out.below).mono ?_)
    rintro e w1 (⟨_, rfl, hb1⟩ | ⟨hne, _⟩)
    · unfold rkZ
      have HB1 := Lib.hid (fun o => (show Below w.heap.size w (w1.alloc o) from (below_next HST0.out.below hb1).alloc (below_next HST0.out.below hb1).size o))
      clear hb1
      go_wp2
      go_ret2
      exact ⟨by rw [HVE.out]; rfl, HB1.out _⟩
    · exact absurd hne HNE.out
end Go.Proofs.YtnapdhfkgfjjfaaGreatDoor
