import Derived.Test.YtepfmoaihhonlaaGreatDoorGRb
import Derived.Test.YtepfmoaihhonlaaGreatDoorGPlain
import Derived.Test.YtepfmoaihhonlaaGreatDoorSt
import Derived.Deep.RegionHeld3
import Derived.Deep.CutRange
import Derived.OrdersHeld
import Derived.Below
/- Package dynamometerref0: fractions in memory; Lowest, Part, Whole. -/
namespace Go.Proofs.YtepfmoaihhonlaaGreatDoor
open Go Go.RowKit Go.Proofs

/-- a value that is a fraction -/
def FracR (w : World) (v : Value) (q : Rat) : Prop :=
  ∃ A1 c1 l1 A2 c2 l2, v = .agg #[.bool (frS q), .slice A1 l1.length c1, .slice A2 l2.length c2] ∧ RNatR w A1 c1 l1 (frN q) ∧ RNatR w A2 c2 l2 q.den
theorem FracR.on {w w' : World} {v : Value} {q : Rat} (h : FracR w v q) (hb : Below w.heap.size w w') : FracR w' v q := by
  obtain ⟨A1, c1, l1, A2, c2, l2, e, h1, h2⟩ := h
  exact ⟨A1, c1, l1, A2, c2, l2, e, h1.on hb, h2.on hb⟩
def FracPost (q : Rat) (w : World) (e : Ending) (w' : World) : Prop := ∃ v, e = .returned v ∧ FracR w' v q ∧ Below w.heap.size w w'
/-- a fraction whose parts have at most n limbs -/
def Sz (n : Nat) (q : Rat) : Prop := frN q < T4 ^ n ∧ q.den < T4 ^ n
theorem RNatR.len {w : World} {A : Option Addr} {c : Nat} {l : List Nat} {x n : Nat} (h : RNatR w A c l x) (hx : x < T4 ^ n) : l.length ≤ n := rlen_lt h.norm h.val hx
/-- a number does not lie in a box whose cells are no integers -/
theorem RNatR.apart {w : World} {A : Option Addr} {c : Nat} {l : List Nat} {x B : Nat} {cs : Array Value} {t : TypeId} (h : RNatR w A c l x) (hB : w.heap[B]? = some (.cells cs t (0, 0))) (hcs : ∀ v ∈ cs.toList, ∀ z, v ≠ .int .i64 z) : ∀ b o, A = some ⟨b, o, none⟩ → 0 < l.length → b ≠ B := by
  rintro b o e hl rfl
  obtain ⟨b', o', e', _, _, hc⟩ := h.rd.2 hl
  rw [e] at e'
  simp only [Option.some.injEq, Addr.mk.injEq, and_true] at e'
  obtain ⟨rfl, rfl⟩ := e'
  have hu : (d4s l)[0]? = some ((d4s l)[0]'(by rw [d4s_length]; exact hl)) := List.getElem?_eq_getElem _
  have h1 := hc 0 _ hu
  obtain ⟨d, _, hd⟩ := d4s_get hu
  rw [cellsAt hB, hd] at h1
  obtain ⟨hlt, h2⟩ := Array.getElem?_eq_some_iff.1 h1
  exact hcs _ (by rw [← Array.getElem_toList hlt]; exact List.getElem_mem _) d h2
/-- the box of a result that is a fraction, as it is laid -/
def FBox (w : World) (B : Nat) : Prop := w.heap[B]? = some (.cells #[.bool false, .slice none 0 0, .slice none 0 0] 39 (0, 0))
theorem FBox.facts {w : World} {B : Nat} (h : FBox w B) : w.cell? ⟨B, 0, none⟩ = some (.bool false) ∧ w.cell? ⟨B, 1, none⟩ = some (.slice none 0 0) ∧ w.cell? ⟨B, 2, none⟩ = some (.slice none 0 0) ∧ w.frozen? ⟨B, 0, none⟩ = false ∧ w.frozen? ⟨B, 1, none⟩ = false ∧ w.frozen? ⟨B, 2, none⟩ = false ∧ B < w.heap.size :=
  ⟨by rw [cellsAt h]; rfl, by rw [cellsAt h]; rfl, by rw [cellsAt h]; rfl, frozenAt h 0, frozenAt h 1, frozenAt h 2, heap_lt h⟩
theorem FBox.on {w w' : World} {B : Nat} (h : FBox w B) (hb : Below w.heap.size w w') : FBox w' B := (hb.block B (heap_lt h)).trans h
/-- a fraction stored into the box of the result -/
theorem frac_ret {w0 w W : World} {B : Nat} {A1 A2 : Option Addr} {c1 c2 : Nat} {l1 l2 : List Nat} {q : Rat} {b : Bool} (hB : FBox w B) (hb : b = frS q) (h1 : RNatR w A1 c1 l1 (frN q)) (h2 : RNatR w A2 c2 l2 q.den) (hbl : Below w0.heap.size w0 w) (h0 : w0.heap.size ≤ B) (hf : Fr (fun i => i = B) w W) :
    FracR W (.agg #[.bool b, .slice A1 l1.length c1, .slice A2 l2.length c2]) q ∧ Below w0.heap.size w0 W := by
  have hcs : ∀ v ∈ (#[.bool false, .slice none 0 0, .slice none 0 0] : Array Value).toList, ∀ z, v ≠ .int .i64 z := by
    intro v hv z; simp at hv; rcases hv with rfl | rfl <;> simp
  refine ⟨⟨A1, c1, l1, A2, c2, l2, by rw [hb], h1.keep hf.size (fun b o e hlt hl => hf.block b hlt (h1.apart hB hcs b o e hl)), h2.keep hf.size (fun b o e hlt hl => hf.block b hlt (h2.apart hB hcs b o e hl))⟩, hbl.trans (hf.below hbl.size (fun i hi hm => by omega))⟩
theorem fr3 {w : World} {B : Nat} (u v z : Value) : Fr (fun i => i = B) w (((w.setCell ⟨B, 0, none⟩ u).setCell ⟨B, 1, none⟩ v).setCell ⟨B, 2, none⟩ z) :=
  (((Fr.refl (fun i => i = B) w).setCell (fun _ => rfl) _).setCell (fun _ => rfl) _).setCell (fun _ => rfl) _

set_option maxHeartbeats 2000000 in
set_option maxRecDepth 100000 in
theorem rLowest_any (b : Bool) (A1 A2 : Option Addr) (c1 c2 : Nat) (l1 l2 : List Nat) (x y : Nat) (w : World) (h1 : RNatR w A1 c1 l1 x) (h2 : RNatR w A2 c2 l2 y) (hs : l1.length ≤ 900000) (hs2 : l2.length ≤ 900000) (hy : 0 < y) :
    Calls Tryz.prog 76 #[.bool b, .slice A1 l1.length c1, .slice A2 l2.length c2] w (FracPost (mkRat (sg b x) y) w) := by
  have HN1 := Lib.hid h1
  have HN2 := Lib.hid h2
  rcases Nat.eq_zero_or_pos x with h0 | h0
  · have h0' : l1 = [] := (val_zero T4_pos h1.norm).1 (by rw [h1.val, h0])
    subst h0' h0
    rw [low_zero]
    clear h1 h2
    have HO := Lib.hid (fun W => rnatOf_any 1 W (by omega))
    go_enter Tryz.func76, Tryz.ntmps76
    obtain ⟨W0, hW0⟩ : ∃ W0, W0 = w.alloc (.cells #[.bool false, .slice none 0 0, .slice none 0 0] 39) := ⟨_, rfl⟩
    have hb0 : Below w.heap.size w W0 := by rw [hW0]; exact (Below.refl _ w).alloc (Nat.le_refl _) _
    have hx0 : FBox W0 w.heap.size := by rw [hW0]; exact alloc_at _ _ _ rfl
    go_wp2_with fail
    rw [← hW0]
    clear hW0
    refine (HO.out _).mono ?_
    rintro e w1 ⟨A3, c3, l3, rfl, hn3, hb3⟩
    have HX := Lib.hid (hx0.on hb3)
    have HF := Lib.hid (fun W (hf : Fr (fun i => i = w.heap.size) w1 W) => frac_ret (q := 0) (b := false) (hx0.on hb3) rfl (rnatr_nil w1) hn3 (below_next hb0 hb3) (Nat.le_refl _) hf)
    obtain ⟨k0, k1, k2, z0, z1, z2, hlt⟩ := HX.out.facts
    clear hb0 hx0 hn3 hb3
    go_wp2
    refine bodyPost_ret (v := .agg #[.bool false, .slice none 0 0, .slice A3 l3.length c3]) (by simp [results, Tryz.results76, go_sem, k0, k1, k2]) rfl ⟨_, rfl, HF.out _ ?_⟩
    exact fr3 _ _ _
  · obtain ⟨f1, f2, f3⟩ := low_pos (b := b) h0 hy
    have hg0 : 0 < Nat.gcd x y := Nat.gcd_pos_of_pos_left y h0
    have hgy : Nat.gcd x y ≤ y := Nat.le_of_dvd hy (Nat.gcd_dvd_right x y)
    have hyl : y < T4 ^ l2.length := rval_lt h2.norm h2.val
    have hxl : l1.length ≠ 0 := by
      intro h
      have : l1 = [] := List.eq_nil_of_length_eq_zero h
      subst this
      have := h1.val
      simp [val] at this; omega
    have t1 : ((l1.length : Int) == 0) = false := by simpa using hxl
    have t1' : (l1.length == 0) = false := by simpa using hxl
    have hGL := fun (W : World) A c (l : List Nat) (h : RNatR W A c l (Nat.gcd x y)) => show l.length ≤ l2.length from h.len (Nat.lt_of_le_of_lt hgy hyl)
    obtain ⟨g, hg⟩ : ∃ g, g = Nat.gcd x y := ⟨_, rfl⟩
    rw [← hg] at f2 f3 hg0 hGL
    obtain ⟨q, hq⟩ : ∃ q, q = mkRat (sg b x) y := ⟨_, rfl⟩
    rw [← hq] at f1 f2 f3 ⊢
    have HGL := Lib.hid hGL
    have HFF := Lib.hid (And.intro f1 (And.intro f2 f3))
    have HO := Lib.hid (fun W => rnatOf_any 1 W (by omega))
    have HG := Lib.hid (fun W (hb : Below w.heap.size w W) => rnatGcd_any A1 A2 c1 c2 l1 l2 x y W (HN1.out.on hb) (HN2.out.on hb) hs hs2)
    rw [← hg] at HG
    clear h1 h2 hq hg f1 f2 f3 hgy hyl hxl hGL
    obtain ⟨W0, hW0⟩ : ∃ W0, W0 = w.alloc (.cells #[.bool false, .slice none 0 0, .slice none 0 0] 39) := ⟨_, rfl⟩
    have HB0 := Lib.hid (show Below w.heap.size w W0 by rw [hW0]; exact (Below.refl _ w).alloc (Nat.le_refl _) _)
    have HX0 := Lib.hid (show FBox W0 w.heap.size by rw [hW0]; exact alloc_at _ _ _ rfl)
    go_enter Tryz.func76, Tryz.ntmps76
    go_wp2_with fail
    rw [← hW0]
    clear hW0
    refine (HG.out _ HB0.out).mono ?_
    rintro e w1 ⟨A3, c3, l3, rfl, hn3, hb3⟩
    have HN3 := Lib.hid hn3
    have HB1 := Lib.hid hb3
    have hl3 := HGL.out w1 A3 c3 l3 hn3
    clear hn3 hb3
    go_wp2_with fail
    refine (HO.out _).mono ?_
    rintro e w2 ⟨A4, c4, l4, rfl, hn4, hb4⟩
    have hl4 : l4.length ≤ 4 := hn4.len (by rw [T4_4]; decide)
    have HC := Lib.hid (rnatCmp_any A3 A4 c3 c4 l3 l4 g _ w2 (HN3.out.on hb4) hn4 (by omega) (by omega))
    have HB2 := Lib.hid (below_next HB1.out hb4)
    obtain ⟨cv, hcv⟩ : ∃ cv, cv = cmpN g (1 : Int).toNat := ⟨_, rfl⟩
    rw [← hcv] at HC
    clear hn4
    by_cases hg1 : 1 < g
    · have tc : decide (0 < cv) = true := by rw [hcv]; unfold cmpN; simp; split <;> (try split) <;> omega
      have HD1 := Lib.hid (fun W (hb : Below w2.heap.size w2 W) (h3 : RNatR W A3 c3 l3 g) => rnatDivMod_any A1 A3 c1 c3 l1 l3 x g W (HN1.out.on (below_next HB0.out (below_next HB2.out hb))) h3 (by omega) (by omega) hg0)
      have HD2 := Lib.hid (fun W (hb : Below w2.heap.size w2 W) (h3 : RNatR W A3 c3 l3 g) => rnatDivMod_any A2 A3 c2 c3 l2 l3 y g W (HN2.out.on (below_next HB0.out (below_next HB2.out hb))) h3 (by omega) (by omega) hg0)
      clear hcv
      go_wp2_with fail
      refine HC.out.mono ?_
      rintro e w3 ⟨rfl, qq, rfl⟩
      have HN3' := Lib.hid (show RNatR (w2.drewN qq) A3 c3 l3 g from (HN3.out.on hb4).on (below_drewN (Below.refl _ w2) qq))
      have HD := Lib.hid (below_drewN (Below.refl w2.heap.size w2) qq)
      go_wp2_with fail
      refine (HD1.out _ HD.out HN3'.out).mono ?_
      rintro e w4 ⟨A5, c5, l5, A6, c6, l6, rfl, hn5, _, hb5⟩
      have HD4 := Lib.hid (below_next HD.out hb5)
      have HN5 := Lib.hid hn5
      have HN3'' := Lib.hid (HN3'.out.on hb5)
      clear hn5 hb5
      go_wp2_with fail
      refine (HD2.out _ HD4.out HN3''.out).mono ?_
      rintro e w5 ⟨A7, c7, l7, A8, c8, l8, rfl, hn7, _, hb7⟩
      have hb9 : Below W0.heap.size W0 w5 := below_next HB2.out (below_next HD4.out hb7)
      have HX := Lib.hid (HX0.out.on hb9)
      obtain ⟨f1, f2, f3⟩ := HFF.out
      have HF := Lib.hid (fun W (hf : Fr (fun i => i = w.heap.size) w5 W) => frac_ret (q := q) (b := b) HX.out f1.symm (by rw [f2]; exact HN5.out.on hb7) (by rw [f3]; exact hn7) (below_next HB0.out hb9) (Nat.le_refl _) hf)
      obtain ⟨k0, k1, k2, z0, z1, z2, hlt⟩ := HX.out.facts
      clear hb9 f1 f2 f3 hn7 hb7
      go_wp2
      refine bodyPost_ret (v := .agg #[.bool b, .slice A5 l5.length c5, .slice A7 l7.length c7]) (by simp [results, Tryz.results76, go_sem, k0, k1, k2]) rfl ⟨_, rfl, HF.out _ ?_⟩
      exact fr3 _ _ _
    · obtain rfl : g = 1 := by omega
      have tc : decide (0 < cv) = false := by rw [hcv]; rfl
      clear hcv
      go_wp2_with fail
      refine HC.out.mono ?_
      rintro e w3 ⟨rfl, qq, rfl⟩
      have hb3 : Below W0.heap.size W0 (w2.drewN qq) := below_drewN HB2.out qq
      have HX := Lib.hid (HX0.out.on hb3)
      obtain ⟨f1, f2, f3⟩ := HFF.out
      rw [Nat.div_one] at f2 f3
      have HF := Lib.hid (fun W (hf : Fr (fun i => i = w.heap.size) (w2.drewN qq) W) => frac_ret (q := q) (b := b) HX.out f1.symm (by rw [f2]; exact HN1.out.on (below_next HB0.out hb3)) (by rw [f3]; exact HN2.out.on (below_next HB0.out hb3)) (below_next HB0.out hb3) (Nat.le_refl _) hf)
      obtain ⟨k0, k1, k2, z0, z1, z2, hlt⟩ := HX.out.facts
      clear hb3 f1 f2 f3
      go_wp2
      refine bodyPost_ret (v := .agg #[.bool b, .slice A1 l1.length c1, .slice A2 l2.length c2]) (by simp [results, Tryz.results76, go_sem, k0, k1, k2]) rfl ⟨_, rfl, HF.out _ ?_⟩
      exact fr3 _ _ _
end Go.Proofs.YtepfmoaihhonlaaGreatDoor

/- A region that draws its order and ends in one operation that waits for all others: that operation apart. No program in sight. -/
namespace Go.Proofs.YtepfmoaihhonlaaGreatDoor
open Go Go.RowKit

section
variable {P : Program} {Q : Exit → Act → World → Prop} {md : Region.Mode}
/-- what is asked behind all but the last operation -/
def LastQ (P : Program) (o : Oper) (Q : Exit → Act → World → Prop) : Exit → Act → World → Prop
  | .normal, a, w => o.wp P a w (fun a w => Q .normal a w) Q
  | .exit i, a, w => Q (.exit i) a w
  | .goto l, a, w => Q (.goto l) a w
  | .ret, a, w => Q .ret a w
  | .panic c, a, w => Q (.panic c) a w
  | .outgrown, a, w => Q .outgrown a w
theorem wp_lastQ {o o' : Oper} {a : Act} {w : World} {K : Act → World → Prop} (h : o'.wp P a w K (LastQ P o Q)) : o'.wp P a w K Q := by
  unfold Oper.wp at *
  generalize (execOp a.eval o').run P w = r at *
  cases r with
  | ok n w' => cases n <;> exact h
  | halt x w' => cases x <;> exact h
def backB (_md : Region.Mode) (ops : Array Oper) : Bool := (List.range ops.size).all fun i => match ops[i]? with | some o => o.guard.isNone && o.after.all (fun e => decide (e.on < i)) | none => true
def feedB (md : Region.Mode) (ops : Array Oper) (n : Nat) (done : List Nat) : Bool := (List.range n).all fun i => done.contains i || (List.range ops.size).any fun j => decide (i < j) && (match ops[j]? with | some o => o.after.any (fun e => Region.binds md e && e.on == i) | none => false)
theorem backB_spec {ops : Array Oper} (h : backB md ops = true) {i : Nat} {o : Oper} (ho : ops[i]? = some o) : o.guard = none ∧ ∀ e ∈ o.after, e.on < i := by
  unfold backB at h
  have hi : i < ops.size := (Array.getElem?_eq_some_iff.1 ho).1
  have := List.all_eq_true.1 h i (List.mem_range.2 hi)
  rw [ho] at this
  simp only [Bool.and_eq_true, Option.isNone_iff_eq_none, Array.all_eq_true_iff_forall_mem, decide_eq_true_eq] at this
  exact this
theorem feedB_spec {ops : Array Oper} {n : Nat} {done : List Nat} (h : feedB md ops n done = true) {i : Nat} (hi : i < n) : i ∈ done ∨ ∃ j o, i < j ∧ ops[j]? = some o ∧ ∃ e ∈ o.after, Region.binds md e = true ∧ e.on = i := by
  unfold feedB at h
  have h := List.all_eq_true.1 h i (List.mem_range.2 hi)
  rw [Bool.or_eq_true] at h
  rcases h with h | h
  · exact .inl (by simpa using h)
  refine .inr ?_
  obtain ⟨j, _, hj⟩ := List.any_eq_true.1 h
  simp only [Bool.and_eq_true, decide_eq_true_eq] at hj
  obtain ⟨h1, h2⟩ := hj
  cases ho : ops[j]? with
  | none => rw [ho] at h2; cases h2
  | some o =>
    rw [ho] at h2
    obtain ⟨e, he, hb⟩ := Array.any_eq_true'.1 h2
    simp only [Bool.and_eq_true, beq_iff_eq] at hb
    exact ⟨j, o, h1, ho, e, he, hb.1, hb.2⟩
theorem getD_push_lt {l : Array Bool} {i : Nat} (d : Bool) (h : i < l.size) : (l.push false).getD i d = l.getD i d := by
  simp [Array.getElem?_push, Nat.ne_of_lt h]
theorem getD_push_eq {l : Array Bool} (d : Bool) : (l.push false).getD l.size d = false := by simp
theorem push_set {l : Array Bool} {i : Nat} (h : i < l.size) : (l.push false).setIfInBounds i true = (l.setIfInBounds i true).push false := by
  apply Array.ext_getElem?
  intro j
  rw [Array.getElem?_setIfInBounds, Array.getElem?_push, Array.getElem?_push, Array.getElem?_setIfInBounds]
  simp only [Array.size_push, Array.size_setIfInBounds]
  by_cases hij : i = j
  · subst hij
    simp [h, Nat.ne_of_lt h, Nat.lt_succ_of_lt h]
  · simp [hij]
variable {init : Array Oper} {last : Oper}
theorem push_lt {i : Nat} (h : i < init.size) : (init.push last)[i]? = init[i]? := by simp [Array.getElem?_push, Nat.ne_of_lt h]
theorem push_last : (init.push last)[init.size]? = some last := by simp
/-- who has come up: all for whom they wait have come up too -/
def Closed (md : Region.Mode) (ops : Array Oper) (listed : Array Bool) : Prop := ∀ j o, ops[j]? = some o → listed.getD j false = true → ∀ e ∈ o.after, Region.binds md e = true → listed.getD e.on false = true
def closedB (ops : Array Oper) (listed : Array Bool) : Bool := (List.range ops.size).all fun j => !listed.getD j false || (match ops[j]? with | some o => o.after.all (fun e => listed.getD e.on false) | none => true)
theorem closedB_spec {ops : Array Oper} {listed : Array Bool} (h : closedB ops listed = true) : Closed md ops listed := by
  intro j o ho hl e he _
  unfold closedB at h
  have := List.all_eq_true.1 h j (List.mem_range.2 (Array.getElem?_eq_some_iff.1 ho).1)
  rw [hl, ho] at this
  simp only [Bool.not_true, Bool.false_or, Array.all_eq_true_iff_forall_mem] at this
  exact this e he
theorem getD_flip {l : Array Bool} {i : Nat} (h : i < l.size) : l.getD i true = l.getD i false := by simp [Array.getElem?_eq_getElem h]
/-- nobody may come up: all have come up -/
theorem all_listed {listed : Array Bool} (hsz : listed.size = init.size) (hb : backB md (init.push last) = true) (hr : Region.ready md init listed = []) : ∀ i, i < init.size → listed.getD i false = true := by
  intro i
  induction i using Nat.strongRecOn with
  | _ i ih =>
    intro hi
    cases hc : listed.getD i false with
    | true => rfl
    | false =>
      exfalso
      have ho : init[i]? = some init[i] := Array.getElem?_eq_getElem hi
      have hm : i ∈ Region.ready md init listed := mem_ready.2 ⟨by rw [getD_flip (by omega)]; exact hc, _, ho, fun e he _ => by
        have hlt := (backB_spec hb (i := i) (o := init[i]) (by rw [push_lt hi]; exact ho)).2 e he
        exact ih e.on hlt (by omega)⟩
      rw [hr] at hm; cases hm
/-- the last may come up: all others have come up -/
theorem last_ready {listed : Array Bool} (hsz : listed.size = init.size) {done : List Nat} (hcl : Closed md init listed) (hf : feedB md (init.push last) init.size done = true) (hd : ∀ i ∈ done, listed.getD i false = true) (hr : init.size ∈ Region.ready md (init.push last) (listed.push false)) : ∀ i, i < init.size → listed.getD i false = true := by
  obtain ⟨_, o, ho, hall⟩ := mem_ready.1 hr
  rw [push_last] at ho
  obtain rfl := (Option.some.inj ho)
  have key : ∀ k i, i < init.size → init.size - i ≤ k → listed.getD i false = true := by
    intro k
    induction k with
    | zero => intro i hi hk; omega
    | succ k ih =>
      intro i hi hk
      rcases feedB_spec hf hi with hdn | ⟨j, oj, hij, hj, e, he, hbd, hon⟩
      · exact hd i hdn
      have hjs : j < (init.push last).size := (Array.getElem?_eq_some_iff.1 hj).1
      rw [Array.size_push] at hjs
      by_cases hjn : j < init.size
      · rw [push_lt hjn] at hj
        have := hcl j oj hj (ih j hjn (by omega)) e he hbd
        rwa [hon] at this
      · obtain rfl : j = init.size := by omega
        rw [push_last] at hj
        obtain rfl := (Option.some.inj hj)
        have := hall e he hbd
        rw [hon, getD_push_lt _ (by omega)] at this
        exact this
  exact fun i hi => key _ i hi (Nat.le_refl _)
theorem ready_push {listed : Array Bool} {i : Nat} (hsz : listed.size = init.size) (hb : backB md (init.push last) = true) (hi : i < init.size) : i ∈ Region.ready md (init.push last) (listed.push false) ↔ i ∈ Region.ready md init listed := by
  rw [mem_ready, mem_ready, push_lt hi, getD_push_lt _ (by omega)]
  refine and_congr_right fun _ => exists_congr fun o => and_congr_right fun ho => forall_congr' fun e => forall_congr' fun he => forall_congr' fun _ => ?_
  have hlt := (backB_spec hb (i := i) (o := o) (by rw [push_lt hi]; exact ho)).2 e he
  rw [getD_push_lt _ (by omega)]
theorem wanted_none {o : Oper} (h : o.guard = none) (f : Nat → Option Bool) : Region.wanted o f = true := by simp [Region.wanted, h]
theorem any_last {done : List Nat} (hb : backB md (init.push last) = true) (hf : feedB md (init.push last) init.size done = true) : ∀ (fuel : Nat) (listed : Array Bool) (a : Act) (w : World), listed.size = init.size → Closed md init listed → (∀ i ∈ done, listed.getD i false = true) →
    wpAny P md init (LastQ P last Q) fuel listed a w → wpAny P md (init.push last) Q (fuel + 1) (listed.push false) a w := by
  have fin : ∀ (fuel : Nat) (listed : Array Bool) (a : Act) (w : World), listed.size = init.size → Region.ready md init listed = [] → LastQ P last Q .normal a w → wpAny P md (init.push last) Q (fuel + 1) (listed.push false) a w := by
    intro fuel listed a w hsz hr hq
    have hall := all_listed hsz hb hr
    have hlast : init.size ∈ Region.ready md (init.push last) (listed.push false) := mem_ready.2 ⟨by rw [← hsz]; exact getD_push_eq _, last, push_last, fun e he _ => by
      have hlt := (backB_spec hb push_last).2 e he
      rw [getD_push_lt _ (by omega)]; exact hall _ hlt⟩
    refine ⟨fun h0 => (by rw [h0] at hlast; cases hlast), fun i hi => ?_⟩
    have hin : i = init.size := by
      obtain ⟨h1, o, ho, _⟩ := mem_ready.1 hi
      have hlt : i < (init.push last).size := (Array.getElem?_eq_some_iff.1 ho).1
      rw [Array.size_push] at hlt
      rcases Nat.lt_or_ge i init.size with h | h
      · rw [getD_push_lt _ (by omega), getD_flip (by omega), hall i h] at h1; cases h1
      · omega
    subst hin
    unfold wpOp
    rw [push_last]
    simp only [wanted_none (backB_spec hb push_last).1, if_true]
    refine .inl (Oper.wp_mono (fun a' w' h' => ?_) hq)
    refine wpAny_done ?_ h' fuel
    cases hr2 : Region.ready md (init.push last) ((listed.push false).setIfInBounds init.size true) with
    | nil => rfl
    | cons x xs =>
      exfalso
      have hx : x ∈ Region.ready md (init.push last) ((listed.push false).setIfInBounds init.size true) := by rw [hr2]; simp
      obtain ⟨h1, o, ho, _⟩ := mem_ready.1 hx
      have hlt : x < (init.push last).size := (Array.getElem?_eq_some_iff.1 ho).1
      rw [Array.size_push] at hlt
      by_cases hxn : x = init.size
      · subst hxn
        rw [← hsz] at h1
        simp at h1
      · rw [getD_set_ne _ (by omega), getD_push_lt _ (by omega), getD_flip (by omega), hall x (by omega)] at h1; cases h1
  intro fuel
  induction fuel with
  | zero => intro listed a w hsz _ _ h; exact fin 0 listed a w hsz h.1 h.2
  | succ fuel ih =>
    intro listed a w hsz hcl hd h
    by_cases hr : Region.ready md init listed = []
    · exact fin (fuel + 1) listed a w hsz hr (h.1 hr)
    · have hnot : init.size ∉ Region.ready md (init.push last) (listed.push false) := fun hl => by
        have hall := last_ready hsz hcl hf hd hl
        apply hr
        cases hr2 : Region.ready md init listed with
        | nil => rfl
        | cons x xs =>
          exfalso
          have hx : x ∈ Region.ready md init listed := by rw [hr2]; simp
          obtain ⟨h1, o, ho, _⟩ := mem_ready.1 hx
          have hlt : x < init.size := (Array.getElem?_eq_some_iff.1 ho).1
          rw [getD_flip (by omega), hall x hlt] at h1; cases h1
      have hlt : ∀ i, i ∈ Region.ready md (init.push last) (listed.push false) → i < init.size := fun i hi => by
        obtain ⟨_, o, ho, _⟩ := mem_ready.1 hi
        have hl : i < (init.push last).size := (Array.getElem?_eq_some_iff.1 ho).1
        rw [Array.size_push] at hl
        rcases Nat.lt_or_ge i init.size with h | h
        · exact h
        · obtain rfl : i = init.size := by omega
          exact absurd hi hnot
      refine ⟨fun h0 => ?_, fun i hi => ?_⟩
      · exfalso
        apply hr
        cases hr2 : Region.ready md init listed with
        | nil => rfl
        | cons x xs =>
          have hx : x ∈ Region.ready md init listed := by rw [hr2]; simp
          obtain ⟨_, o, ho, _⟩ := mem_ready.1 hx
          have := (ready_push (last := last) hsz hb (Array.getElem?_eq_some_iff.1 ho).1).2 hx
          rw [h0] at this; cases this
      · have hin := hlt i hi
        have hi' := (ready_push hsz hb hin).1 hi
        have hw := h.2 i hi'
        obtain ⟨_, o, ho, hpre⟩ := mem_ready.1 hi'
        have hg := (backB_spec hb (i := i) (o := o) (by rw [push_lt hin]; exact ho)).1
        have hcl' : Closed md init (listed.setIfInBounds i true) := fun j oj hj hl e he hbd => by
          by_cases hji : i = j
          · subst hji
            rw [ho] at hj
            obtain rfl := Option.some.inj hj
            exact getD_set_true (hpre e he hbd)
          · rw [getD_set_ne _ hji] at hl
            exact getD_set_true (hcl j oj hj hl e he hbd)
        unfold wpOp at hw ⊢
        rw [ho] at hw
        rw [push_lt hin, ho]
        simp only [wanted_none hg, if_true] at hw ⊢
        rcases hw with hw | hw
        · refine .inl (Oper.wp_mono (fun a' w' h' => ?_) (wp_lastQ hw))
          rw [push_set (by omega)]
          exact ih (listed.setIfInBounds i true) a' w' (by simpa using hsz) hcl' (fun i hi => getD_set_true (hd i hi)) h'
        · exact .inr hw
/-- THE LAW -/
theorem wp_region_last {id : Nat} {ops : Array Oper} {a : Act} {w : World} (hops : ops = init.push last) (hm : P.follows .mixedOrders = true) (hb : backB .any (init.push last) = true) (hf : feedB .any (init.push last) init.size [] = true)
    (h : wpAny P .any init (LastQ P last Q) init.size (Array.replicate init.size false) a { w with drawn := w.drawn + 1 }) : (Code.region id ops true).wp P Q a w := by
  subst hops
  refine wp_region_any hm ?_
  have := any_last (P := P) (Q := Q) hb hf init.size (Array.replicate init.size false) a _ (by simp) (fun j o _ hl => by
    have h0 : (Array.replicate init.size false).getD j false = false := by
      simp only [Array.getD_eq_getD_getElem?, Array.getElem?_replicate]
      split <;> rfl
    rw [h0] at hl; cases hl) (by simp) h
  rw [Array.size_push, Array.replicate_succ]
  exact this
/-- .. once more -/
theorem wpAny_last {ops : Array Oper} {lst listed : Array Bool} {fuel : Nat} {a : Act} {w : World} (done : List Nat) (hops : ops = init.push last) (hl : lst = listed.push false) (hb : backB .any (init.push last) = true) (hf : feedB .any (init.push last) init.size done = true)
    (hsz : listed.size = init.size) (hc : closedB init listed = true) (hd : done.all (fun i => listed.getD i false) = true) (h : wpAny P .any init (LastQ P last Q) fuel listed a w) : wpAny P .any ops Q (fuel + 1) lst a w := by
  subst hops hl
  exact any_last hb hf fuel listed a w hsz (closedB_spec hc) (fun i hi => by have := List.all_eq_true.1 hd i hi; exact this) h
variable {ops : Array Oper} {S : World → Prop}
/-- one alone may come up -/
theorem run_one {i : Nat} {o : Oper} {fuel : Nat} {listed : Array Bool} {a : Act} {w : World} (hr : Region.ready md ops listed = [i]) (ho : ops[i]? = some o) (hg : o.guard = none)
    (h : ∀ K : Act → World → Prop, Hid (∀ a' w', S w' → (S w' → wpAnyH P md ops Q S fuel (listed.setIfInBounds i true) a' w') → K a' w') → o.wp P a w K Q) : wpAnyH P md ops Q S (fuel + 1) listed a w := by
  refine wpAnyH_all (rs := [i]) hr (by simp) fun j hj => ?_
  obtain rfl : j = i := by simpa using hj
  unfold wpOp
  rw [ho]
  simp only [wanted_none hg, if_true]
  exact .inl (h _ (fun a' w' h1 h2 => ⟨h1, h2 h1⟩))
end
end Go.Proofs.YtepfmoaihhonlaaGreatDoor

/- Package dynamometerref0: fractions: Part, Whole, Minus, Plus, Less, Times, Sign, Order, Floor. Printed by gen_frac.py. -/
namespace Go.Proofs.YtepfmoaihhonlaaGreatDoor
open Go Go.RowKit Go.Proofs

theorem frac_ret2 {w0 w W : World} {B : Nat} {v : Value} {q : Rat} (hB : FBox w B) (h : FracR w v q) (hbl : Below w0.heap.size w0 w) (h0 : w0.heap.size ≤ B) (hf : Fr (fun i => i = B) w W) : FracR W v q ∧ Below w0.heap.size w0 W := by
  obtain ⟨A1, c1, l1, A2, c2, l2, rfl, h1, h2⟩ := h
  exact frac_ret hB rfl h1 h2 hbl h0 hf
theorem T4_5 : T4 ^ 5 = 100000000000000000000 := by unfold T4; rfl
theorem of_len {w : World} {A : Option Addr} {c : Nat} {l : List Nat} {x : Nat} (h : RNatR w A c l x) (hx : x ≤ 9223372036854775807) : l.length ≤ 5 := h.len (by rw [T4_5]; omega)
theorem sg_of {n : Int} : sg (decide (n < 0)) n.natAbs = n := sg_self n

set_option maxHeartbeats 2000000 in
set_option maxRecDepth 100000 in
theorem rPart_any (n d : Int) (w : World) (h0 : -9223372036854775807 ≤ n) (h1 : n ≤ 9223372036854775807) (hd0 : 1 ≤ d) (hd : d ≤ 9223372036854775807) :
    Calls Tryz.prog 82 #[.int .i64 n, .int .i64 d] w (FracPost (mkRat n d.toNat) w) := by
  have HD := Lib.hid (fun W => rnatOf_any d W hd)
  obtain ⟨W0, hW0⟩ : ∃ W0, W0 = w.alloc (.cells #[.bool false, .slice none 0 0, .slice none 0 0] 39) := ⟨_, rfl⟩
  have HB0 := Lib.hid (show Below w.heap.size w W0 by rw [hW0]; exact (Below.refl _ w).alloc (Nat.le_refl _) _)
  have HX0 := Lib.hid (show FBox W0 w.heap.size by rw [hW0]; exact alloc_at _ _ _ rfl)

  by_cases hn : n < 0
  · have t1 : decide (n < 0) = true := by simpa using hn

    have HN := Lib.hid (fun W => rnatOf_any (-n) W (by omega))
    have HL := Lib.hid (fun W A1 c1 l1 A2 c2 l2 (h1 : RNatR W A1 c1 l1 ((-n) : Int).toNat) (h2 : RNatR W A2 c2 l2 d.toNat) => rLowest_any true A1 A2 c1 c2 l1 l2 _ _ W h1 h2 (by have := of_len h1 (by omega); omega) (by have := of_len h2 (by omega); omega) (by omega))
    have hsg : sg true ((-n) : Int).toNat = n := by unfold sg; simp; omega
    rw [hsg] at HL
    clear hsg
    go_enter Tryz.func82, Tryz.ntmps82
    go_wp2_with fail
    rw [← hW0]
    clear hW0
    refine (HN.out _).mono ?_
    rintro e w1 ⟨A1, c1, l1, rfl, hn1, hb1⟩
    have HN1 := Lib.hid hn1
    have HB1 := Lib.hid hb1
    clear hn1 hb1
    go_wp2_with fail
    refine (HD.out _).mono ?_
    rintro e w2 ⟨A2, c2, l2, rfl, hn2, hb2⟩
    have HL2 := Lib.hid (HL.out w2 A1 c1 l1 A2 c2 l2 (HN1.out.on hb2) hn2)
    have HB2 := Lib.hid (below_next HB1.out hb2)
    clear hn2 hb2
    go_wp2_with fail
    refine HL2.out.mono ?_
    rintro e w3 ⟨v, rfl, hv, hb3⟩
    have hb3' := below_next HB2.out hb3
    have HF := Lib.hid (fun W (hf : Fr (fun i => i = w.heap.size) w3 W) => frac_ret2 (HX0.out.on hb3') hv (below_next HB0.out hb3') (Nat.le_refl _) hf)
    obtain ⟨k0, k1, k2, z0, z1, z2, hlt⟩ := (HX0.out.on hb3').facts
    obtain ⟨A5, c5, l5, A6, c6, l6, rfl, _, _⟩ := hv
    clear hb3 hb3'
    go_wp2
    refine bodyPost_ret (v := .agg #[.bool _, .slice A5 l5.length c5, .slice A6 l6.length c6]) (by simp [results, Tryz.results82, go_sem, k0, k1, k2]) rfl ⟨_, rfl, HF.out _ (fr3 _ _ _)⟩

  · have t1 : decide (n < 0) = false := by simpa using hn

    have HN := Lib.hid (fun W => rnatOf_any n W (by omega))
    have HL := Lib.hid (fun W A1 c1 l1 A2 c2 l2 (h1 : RNatR W A1 c1 l1 (n : Int).toNat) (h2 : RNatR W A2 c2 l2 d.toNat) => rLowest_any false A1 A2 c1 c2 l1 l2 _ _ W h1 h2 (by have := of_len h1 (by omega); omega) (by have := of_len h2 (by omega); omega) (by omega))
    have hsg : sg false (n : Int).toNat = n := by unfold sg; simp; omega
    rw [hsg] at HL
    clear hsg
    go_enter Tryz.func82, Tryz.ntmps82
    go_wp2_with fail
    rw [← hW0]
    clear hW0
    refine (HN.out _).mono ?_
    rintro e w1 ⟨A1, c1, l1, rfl, hn1, hb1⟩
    have HN1 := Lib.hid hn1
    have HB1 := Lib.hid hb1
    clear hn1 hb1
    go_wp2_with fail
    refine (HD.out _).mono ?_
    rintro e w2 ⟨A2, c2, l2, rfl, hn2, hb2⟩
    have HL2 := Lib.hid (HL.out w2 A1 c1 l1 A2 c2 l2 (HN1.out.on hb2) hn2)
    have HB2 := Lib.hid (below_next HB1.out hb2)
    clear hn2 hb2
    go_wp2_with fail
    refine HL2.out.mono ?_
    rintro e w3 ⟨v, rfl, hv, hb3⟩
    have hb3' := below_next HB2.out hb3
    have HF := Lib.hid (fun W (hf : Fr (fun i => i = w.heap.size) w3 W) => frac_ret2 (HX0.out.on hb3') hv (below_next HB0.out hb3') (Nat.le_refl _) hf)
    obtain ⟨k0, k1, k2, z0, z1, z2, hlt⟩ := (HX0.out.on hb3').facts
    obtain ⟨A5, c5, l5, A6, c6, l6, rfl, _, _⟩ := hv
    clear hb3 hb3'
    go_wp2
    refine bodyPost_ret (v := .agg #[.bool _, .slice A5 l5.length c5, .slice A6 l6.length c6]) (by simp [results, Tryz.results82, go_sem, k0, k1, k2]) rfl ⟨_, rfl, HF.out _ (fr3 _ _ _)⟩

set_option maxHeartbeats 2000000 in
set_option maxRecDepth 100000 in
theorem rWhole_any (n : Int) (w : World) (h0 : -9223372036854775807 ≤ n) (h1 : n ≤ 9223372036854775807) :
    Calls Tryz.prog 26 #[.int .i64 n] w (FracPost (n : Rat) w) := by
  have HP := Lib.hid (fun W => rPart_any n 1 W h0 h1 (by omega) (by omega))
  rw [show mkRat n (1 : Int).toNat = (n : Rat) from Rat.mkRat_self (n : Rat)] at HP
  obtain ⟨W0, hW0⟩ : ∃ W0, W0 = w.alloc (.cells #[.bool false, .slice none 0 0, .slice none 0 0] 39) := ⟨_, rfl⟩
  have HB0 := Lib.hid (show Below w.heap.size w W0 by rw [hW0]; exact (Below.refl _ w).alloc (Nat.le_refl _) _)
  have HX0 := Lib.hid (show FBox W0 w.heap.size by rw [hW0]; exact alloc_at _ _ _ rfl)
  go_enter Tryz.func26, Tryz.ntmps26
  go_wp2_with fail
  rw [← hW0]
  clear hW0
  refine (HP.out _).mono ?_
  rintro e w3 ⟨v, rfl, hv, hb3'⟩
  have HF := Lib.hid (fun W (hf : Fr (fun i => i = w.heap.size) w3 W) => frac_ret2 (HX0.out.on hb3') hv (below_next HB0.out hb3') (Nat.le_refl _) hf)
  obtain ⟨k0, k1, k2, z0, z1, z2, hlt⟩ := (HX0.out.on hb3').facts
  obtain ⟨A5, c5, l5, A6, c6, l6, rfl, _, _⟩ := hv
  clear hb3'
  go_wp2
  refine bodyPost_ret (v := .agg #[.bool _, .slice A5 l5.length c5, .slice A6 l6.length c6]) (by simp [results, Tryz.results26, go_sem, k0, k1, k2]) rfl ⟨_, rfl, HF.out _ (fr3 _ _ _)⟩

set_option maxHeartbeats 4000000 in
set_option maxRecDepth 100000 in
theorem rTimes_any (n : Nat) (u v : Value) (a b : Rat) (w : World) (hn : n ≤ 400000) (ha : FracR w u a) (hb : FracR w v b) (hsa : Sz n a) (hsb : Sz n b) :
    Calls Tryz.prog 25 #[u, v] w (FracPost (a * b) w) := by
  obtain ⟨A1, c1, l1, A2, c2, l2, rfl, ha1, ha2⟩ := ha
  obtain ⟨A3, c3, l3, A4, c4, l4, rfl, hb1, hb2⟩ := hb
  have la1 := ha1.len hsa.1
  have la2 := ha2.len hsa.2
  have lb1 := hb1.len hsb.1
  have lb2 := hb2.len hsb.2
  obtain ⟨W0, hW0⟩ : ∃ W0, W0 = ((w.alloc (.cells #[.bool (frS a), .slice A1 l1.length c1, .slice A2 l2.length c2] 39)).alloc (.cells #[.bool (frS b), .slice A3 l3.length c3, .slice A4 l4.length c4] 39)).alloc (.cells #[.bool false, .slice none 0 0, .slice none 0 0] 39) := ⟨_, rfl⟩
  have HST0 := Lib.hid (show St w W0 [(w.heap.size, .cells #[.bool (frS a), .slice A1 l1.length c1, .slice A2 l2.length c2] 39 (0, 0)), (w.heap.size + 1, .cells #[.bool (frS b), .slice A3 l3.length c3, .slice A4 l4.length c4] 39 (0, 0)), (w.heap.size + 1 + 1, .cells #[.bool false, .slice none 0 0, .slice none 0 0] 39 (0, 0))] by rw [hW0]; exact (((St.start w).alloc _ _ rfl).alloc _ _ (by simp)).alloc _ _ (by simp))
  have hs0 : W0.heap.size = w.heap.size + 3 := by rw [hW0]; simp
  have HX0 := Lib.hid (show FBox W0 (w.heap.size + 1 + 1) from HST0.out.at 2 rfl)
  have HA1 := Lib.hid (ha1.on HST0.out.below)
  have HA2 := Lib.hid (ha2.on HST0.out.below)
  have HA3 := Lib.hid (hb1.on HST0.out.below)
  have HA4 := Lib.hid (hb2.on HST0.out.below)
  have HM1 := Lib.hid (fun W (hb : Below W0.heap.size W0 W) => rnatMul_any A1 A3 c1 c3 l1 l3 _ _ W (HA1.out.on hb) (HA3.out.on hb) (by omega) (by omega))
  have HM2 := Lib.hid (fun W (hb : Below W0.heap.size W0 W) => rnatMul_any A2 A4 c2 c4 l2 l4 _ _ W (HA2.out.on hb) (HA4.out.on hb) (by omega) (by omega))
  have hd : 0 < a.den * b.den := Nat.mul_pos a.den_pos b.den_pos
  have HL := Lib.hid (fun W A5 c5 l5 A6 c6 l6 (h5 : RNatR W A5 c5 l5 (frN a * frN b)) (h6 : RNatR W A6 c6 l6 (a.den * b.den)) => rLowest_any (!(frS a == frS b)) A5 A6 c5 c6 l5 l6 _ _ W h5 h6 (by have := h5.len (n := n + n) (by rw [Nat.pow_add]; exact Nat.mul_lt_mul'' hsa.1 hsb.1); omega) (by have := h6.len (n := n + n) (by rw [Nat.pow_add]; exact Nat.mul_lt_mul'' hsa.2 hsb.2); omega) hd)
  rw [show mkRat (sg (!(frS a == frS b)) (frN a * frN b)) (a.den * b.den) = a * b from times_eq a b] at HL
  clear ha1 ha2 hb1 hb2 hd hsa hsb
  go_enter Tryz.func25, Tryz.ntmps25
  go_wp2_with fail
  rw [← hW0]
  clear hW0
  have HB := Lib.hid (Below.refl W0.heap.size W0)
  have HKS := Lib.hid (show ∀ X, Below W0.heap.size W0 X → (fun X => Below W0.heap.size W0 X ∧ X.cell? ⟨w.heap.size, 0, none⟩ = some (.bool (frS a)) ∧ X.cell? ⟨w.heap.size, 1, none⟩ = some (.slice A1 l1.length c1) ∧ X.cell? ⟨w.heap.size, 2, none⟩ = some (.slice A2 l2.length c2) ∧ X.cell? ⟨w.heap.size + 1, 0, none⟩ = some (.bool (frS b)) ∧ X.cell? ⟨w.heap.size + 1, 1, none⟩ = some (.slice A3 l3.length c3) ∧ X.cell? ⟨w.heap.size + 1, 2, none⟩ = some (.slice A4 l4.length c4)) X from fun X hX => ⟨hX, (HST0.out.call (below_next HB.out hX)).cell 0 0 rfl rfl, (HST0.out.call (below_next HB.out hX)).cell 0 1 rfl rfl, (HST0.out.call (below_next HB.out hX)).cell 0 2 rfl rfl, (HST0.out.call (below_next HB.out hX)).cell 1 0 rfl rfl, (HST0.out.call (below_next HB.out hX)).cell 1 1 rfl rfl, (HST0.out.call (below_next HB.out hX)).cell 1 2 rfl rfl⟩)
  refine wp_region_last (init := #[_, _, _, _, _, _, _, _, _, _, _, _, _, _, _, _]) (last := _) rfl (by kernel_rfl) (by kernel_rfl) (by kernel_rfl) ?_
  show wpAny _ _ _ _ 16 (Array.replicate 16 false) _ _
  refine wpAny_of_held (S := (fun X => Below W0.heap.size W0 X ∧ X.cell? ⟨w.heap.size, 0, none⟩ = some (.bool (frS a)) ∧ X.cell? ⟨w.heap.size, 1, none⟩ = some (.slice A1 l1.length c1) ∧ X.cell? ⟨w.heap.size, 2, none⟩ = some (.slice A2 l2.length c2) ∧ X.cell? ⟨w.heap.size + 1, 0, none⟩ = some (.bool (frS b)) ∧ X.cell? ⟨w.heap.size + 1, 1, none⟩ = some (.slice A3 l3.length c3) ∧ X.cell? ⟨w.heap.size + 1, 2, none⟩ = some (.slice A4 l4.length c4))) _ _ _ _ ?_
  have HS0 := HKS.out _ (Below.refl _ W0).drew
  refine wpAnyH_take (i := 0) (v := ?_) rfl (by kernel_rfl) (by kernel_rfl) (by kernel_rfl) (fun _ _ _ h => h) (Or.inl ⟨by rfl, ?_⟩) HS0 ?_
  rotate_left
  · intro W hW; (try dsimp only at hW); go_simp; try (with_reducible rfl)
  (try simp only [List.getElem_toArray, List.getElem_cons_zero, Act.put, List.setIfInBounds_toArray, List.set_cons_zero, List.set_cons_succ])
  refine wpAnyH_take (i := 1) (v := ?_) rfl (by kernel_rfl) (by kernel_rfl) (by kernel_rfl) (fun _ _ _ h => h) (Or.inl ⟨by rfl, ?_⟩) HS0 ?_
  rotate_left
  · intro W hW; (try dsimp only at hW); go_simp; try (with_reducible rfl)
  (try simp only [List.getElem_toArray, List.getElem_cons_succ, List.getElem_cons_zero, Act.put, List.setIfInBounds_toArray, List.set_cons_zero, List.set_cons_succ])
  refine wpAnyH_take (i := 2) (v := ?_) rfl (by kernel_rfl) (by kernel_rfl) (by kernel_rfl) (fun _ _ _ h => h) (Or.inl ⟨by rfl, ?_⟩) HS0 ?_
  rotate_left
  · intro W hW; (try dsimp only at hW); go_simp; try (with_reducible rfl)
  (try simp only [List.getElem_toArray, List.getElem_cons_succ, List.getElem_cons_zero, Act.put, List.setIfInBounds_toArray, List.set_cons_zero, List.set_cons_succ])
  refine wpAnyH_take (i := 3) (v := ?_) rfl (by kernel_rfl) (by kernel_rfl) (by kernel_rfl) (fun _ _ _ h => h) (Or.inl ⟨by rfl, ?_⟩) HS0 ?_
  rotate_left
  · intro W hW; (try dsimp only at hW); go_simp; try (with_reducible rfl)
  (try simp only [List.getElem_toArray, List.getElem_cons_succ, List.getElem_cons_zero, Act.put, List.setIfInBounds_toArray, List.set_cons_zero, List.set_cons_succ])
  refine wpAnyH_take (i := 4) (v := ?_) rfl (by kernel_rfl) (by kernel_rfl) (by kernel_rfl) (fun _ _ _ h => h) (Or.inl ⟨by rfl, ?_⟩) HS0 ?_
  rotate_left
  · intro W hW; (try dsimp only at hW); go_simp; try (with_reducible rfl)
  (try simp only [List.getElem_toArray, List.getElem_cons_succ, List.getElem_cons_zero, Act.put, List.setIfInBounds_toArray, List.set_cons_zero, List.set_cons_succ])
  refine wpAnyH_take (i := 5) (v := ?_) rfl (by kernel_rfl) (by kernel_rfl) (by kernel_rfl) (fun _ _ _ h => h) (Or.inl ⟨by rfl, ?_⟩) HS0 ?_
  rotate_left
  · intro W hW; (try dsimp only at hW); go_simp; try (with_reducible rfl)
  (try simp only [List.getElem_toArray, List.getElem_cons_succ, List.getElem_cons_zero, Act.put, List.setIfInBounds_toArray, List.set_cons_zero, List.set_cons_succ])
  refine wpAnyH_take (i := 6) (v := ?_) rfl (by kernel_rfl) (by kernel_rfl) (by kernel_rfl) (fun _ _ _ h => h) (Or.inl ⟨by rfl, ?_⟩) HS0 ?_
  rotate_left
  · intro W hW; (try dsimp only at hW); go_simp; try (with_reducible rfl)
  (try simp only [List.getElem_toArray, List.getElem_cons_succ, List.getElem_cons_zero, Act.put, List.setIfInBounds_toArray, List.set_cons_zero, List.set_cons_succ])
  refine wpAnyH_take (i := 7) (v := ?_) rfl (by kernel_rfl) (by kernel_rfl) (by kernel_rfl) (fun _ _ _ h => h) (Or.inl ⟨by rfl, ?_⟩) HS0 ?_
  rotate_left
  · intro W hW; (try dsimp only at hW); go_simp; try (with_reducible rfl)
  (try simp only [List.getElem_toArray, List.getElem_cons_succ, List.getElem_cons_zero, Act.put, List.setIfInBounds_toArray, List.set_cons_zero, List.set_cons_succ])
  refine wpAnyH_take (i := 8) (v := ?_) rfl (by kernel_rfl) (by kernel_rfl) (by kernel_rfl) (fun _ _ _ h => h) (Or.inl ⟨by rfl, ?_⟩) HS0 ?_
  rotate_left
  · intro W hW; (try dsimp only at hW); go_simp; try (with_reducible rfl)
  (try simp only [List.getElem_toArray, List.getElem_cons_succ, List.getElem_cons_zero, Act.put, List.setIfInBounds_toArray, List.set_cons_zero, List.set_cons_succ])
  refine wpAnyH_take (i := 10) (v := ?_) rfl (by kernel_rfl) (by kernel_rfl) (by kernel_rfl) (fun _ _ _ h => h) (Or.inl ⟨by rfl, ?_⟩) HS0 ?_
  rotate_left
  · intro W hW; (try dsimp only at hW); go_simp; try (with_reducible rfl)
  (try simp only [List.getElem_toArray, List.getElem_cons_succ, List.getElem_cons_zero, Act.put, List.setIfInBounds_toArray, List.set_cons_zero, List.set_cons_succ])
  refine wpAnyH_take (i := 11) (v := ?_) rfl (by kernel_rfl) (by kernel_rfl) (by kernel_rfl) (fun _ _ _ h => h) (Or.inl ⟨by rfl, ?_⟩) HS0 ?_
  rotate_left
  · intro W hW; (try dsimp only at hW); go_simp; try (with_reducible rfl)
  (try simp only [List.getElem_toArray, List.getElem_cons_succ, List.getElem_cons_zero, Act.put, List.setIfInBounds_toArray, List.set_cons_zero, List.set_cons_succ])
  refine wpAnyH_take (i := 12) (v := ?_) rfl (by kernel_rfl) (by kernel_rfl) (by kernel_rfl) (fun _ _ _ h => h) (Or.inl ⟨by rfl, ?_⟩) HS0 ?_
  rotate_left
  · intro W hW; (try dsimp only at hW); go_simp; try (with_reducible rfl)
  (try simp only [List.getElem_toArray, List.getElem_cons_succ, List.getElem_cons_zero, Act.put, List.setIfInBounds_toArray, List.set_cons_zero, List.set_cons_succ])
  refine wpAnyH_take (i := 13) (v := ?_) rfl (by kernel_rfl) (by kernel_rfl) (by kernel_rfl) (fun _ _ _ h => h) (Or.inl ⟨by rfl, ?_⟩) HS0 ?_
  rotate_left
  · intro W hW; (try dsimp only at hW); go_simp; try (with_reducible rfl)
  (try simp only [List.getElem_toArray, List.getElem_cons_succ, List.getElem_cons_zero, Act.put, List.setIfInBounds_toArray, List.set_cons_zero, List.set_cons_succ])
  refine run_one (i := 9) (by kernel_rfl) rfl rfl ?_
  intro K hK
  go_simp
  refine (HM1.out _ HS0.1).mono ?_
  rintro e w5 ⟨A5, c5, l5, rfl, hn5, hb5⟩
  refine hK.out _ _ (HKS.out _ (below_next HS0.1 hb5)) ?_
  clear hK K
  have HSP := HS0
  clear HS0
  intro HS0
  refine run_one (i := 14) (by kernel_rfl) rfl rfl ?_
  intro K hK
  go_simp
  refine (HM2.out _ HS0.1).mono ?_
  rintro e w6 ⟨A6, c6, l6, rfl, hn6, hb6⟩
  refine hK.out _ _ (HKS.out _ (below_next HS0.1 hb6)) ?_
  clear hK K
  have HSP := HS0
  clear HS0
  intro HS0
  refine run_one (i := 15) (by kernel_rfl) rfl rfl ?_
  intro K hK
  go_simp
  refine (HL.out _ A5 c5 l5 A6 c6 l6 (hn5.on hb6) hn6).mono ?_
  rintro e w7 ⟨v7, rfl, hv7, hb7⟩
  refine hK.out _ _ (HKS.out _ (below_next HS0.1 hb7)) ?_
  clear hK K
  have HSP := HS0
  clear HS0
  intro HS0
  refine wpAnyH_done (by kernel_rfl) ?_ _
  simp only [LastQ]
  have HF := Lib.hid (fun W (hf : Fr (fun i => i = w.heap.size + 1 + 1) w7 W) => frac_ret2 (HX0.out.on HS0.1) hv7 (below_next HST0.out.below HS0.1) (by omega) hf)
  obtain ⟨k0, k1, k2, z0, z1, z2, hlt⟩ := (HX0.out.on HS0.1).facts
  obtain ⟨A8, c8, l8, A9, c9, l9, rfl, _, _⟩ := hv7
  clear HS0 hb5 hb6 hb7 hn5 hn6
  go_simp
  go_wp2
  refine bodyPost_ret (v := .agg #[.bool (frS (a * b)), .slice A8 l8.length c8, .slice A9 l9.length c9]) (by simp [results, Tryz.results25, go_sem, k0, k1, k2]) rfl ⟨_, rfl, HF.out _ (fr3 _ _ _)⟩

end Go.Proofs.YtepfmoaihhonlaaGreatDoor

/- Package dynamometerref0: fractions: Minus, Plus, Less, Sign, Order, Floor. Printed by gen_frac.py. -/
namespace Go.Proofs.YtepfmoaihhonlaaGreatDoor
open Go Go.RowKit Go.Proofs

theorem two_on {w : World} (X Y : Obj) : Below w.heap.size w ((w.alloc X).alloc Y) := ((Below.refl _ w).alloc (Nat.le_refl _) X).alloc (by simp) Y
set_option maxHeartbeats 2000000 in
set_option maxRecDepth 100000 in
theorem rMinus_any (u : Value) (a : Rat) (w : World) (ha : FracR w u a) : Calls Tryz.prog 144 #[u] w (FracPost (-a) w) := by
  obtain ⟨A1, c1, l1, A2, c2, l2, rfl, ha1, ha2⟩ := ha
  obtain ⟨m1, m2, m3⟩ := minus_parts a
  have HF := Lib.hid (fun X Y => show FracR ((w.alloc X).alloc Y) (.agg #[.bool (frS (-a)), .slice A1 l1.length c1, .slice A2 l2.length c2]) (-a) from ⟨A1, c1, l1, A2, c2, l2, rfl, by rw [m2]; exact ha1.on (two_on X Y), by rw [m3]; exact ha2.on (two_on X Y)⟩)
  by_cases hl : l1.length = 0
  · have hz : frN a = 0 := by
      have : l1 = [] := List.eq_nil_of_length_eq_zero hl
      subst this
      have := ha1.val; simpa [val] using this.symm
    have hS : frS (-a) = frS a := by rw [m1, if_neg (by omega)]
    have t1 : decide (0 < (l1.length : Int)) = false := decide_eq_false (by omega)
    have t1' : decide (0 < l1.length) = false := decide_eq_false (by omega)
    rw [hS] at HF
    obtain ⟨sa, hsa⟩ : ∃ s, s = frS a := ⟨_, rfl⟩
    rw [← hsa] at HF ⊢
    clear m1 m2 m3 ha1 ha2 hz hsa hS hl
    go_enter Tryz.func144, Tryz.ntmps144
    go_wp2
    refine bodyPost_ret (v := .agg #[.bool sa, .slice A1 l1.length c1, .slice A2 l2.length c2]) (by simp [results, Tryz.results144, go_sem]) rfl ⟨_, rfl, HF.out _ _, two_on _ _⟩
  · have hz : 0 < frN a := by
      refine Nat.pos_of_ne_zero fun h => hl ?_
      rw [(val_zero T4_pos ha1.norm).1 (by rw [ha1.val, h])]; rfl
    have hS : frS (-a) = !frS a := by rw [m1, if_pos hz]
    have t1 : decide (0 < (l1.length : Int)) = true := decide_eq_true (by omega)
    have t1' : decide (0 < l1.length) = true := decide_eq_true (by omega)
    rw [hS] at HF
    obtain ⟨sa, hsa⟩ : ∃ s, s = frS a := ⟨_, rfl⟩
    rw [← hsa] at HF ⊢
    clear m1 m2 m3 ha1 ha2 hz hsa hS hl
    go_enter Tryz.func144, Tryz.ntmps144
    go_wp2
    refine bodyPost_ret (v := .agg #[.bool (!sa), .slice A1 l1.length c1, .slice A2 l2.length c2]) (by simp [results, Tryz.results144, go_sem]) rfl ⟨_, rfl, HF.out _ _, two_on _ _⟩

/-- the sign -/
def sgnQ (q : Rat) : Int := if q < 0 then -1 else if q = 0 then 0 else 1
set_option maxHeartbeats 1000000 in
set_option maxRecDepth 100000 in
theorem rSign_any (u : Value) (a : Rat) (w : World) (ha : FracR w u a) : Calls Tryz.prog 73 #[u] w fun e w' => e = .returned (.int .i64 (sgnQ a)) ∧ Below w.heap.size w w' := by
  obtain ⟨A1, c1, l1, A2, c2, l2, rfl, ha1, ha2⟩ := ha
  have hs := sign_eq a
  have hb := (Below.refl w.heap.size w).alloc (Nat.le_refl _) (.cells #[.bool (frS a), .slice A1 l1.length c1, .slice A2 l2.length c2] 39)
  by_cases hl : l1.length = 0
  · have hz : frN a = 0 := by
      have : l1 = [] := List.eq_nil_of_length_eq_zero hl
      subst this
      have := ha1.val; simpa [val] using this.symm
    have HE := Lib.hid (show sgnQ a = 0 by unfold sgnQ; rw [← hs, if_pos hz])
    have t1 : ((l1.length : Int) == 0) = true := by simp; exact List.eq_nil_of_length_eq_zero hl
    have t1' : (l1.length == 0) = true := by simpa using hl
    clear ha1 ha2 hs hz hl
    go_enter Tryz.func73, Tryz.ntmps73
    go_wp2
    go_ret
    exact ⟨by rw [HE.out]; rfl, hb⟩
  · have hz : frN a ≠ 0 := fun h => hl (by rw [(val_zero T4_pos ha1.norm).1 (by rw [ha1.val, h])]; rfl)
    rw [if_neg hz] at hs
    have t1 : ((l1.length : Int) == 0) = false := by simpa using hl
    have t1' : (l1.length == 0) = false := by simpa using hl
    have HE := Lib.hid (show sgnQ a = if frS a = true then -1 else 1 from hs.symm)
    obtain ⟨sa, hsa⟩ : ∃ s, s = frS a := ⟨_, rfl⟩
    rw [← hsa] at HE hb ⊢
    clear ha1 ha2 hs hz hl hsa
    cases sa with
    | true =>
      go_enter Tryz.func73, Tryz.ntmps73
      go_wp2
      go_ret
      exact ⟨by rw [HE.out]; rfl, hb⟩
    | false =>
      go_enter Tryz.func73, Tryz.ntmps73
      go_wp2
      go_ret
      exact ⟨by rw [HE.out]; rfl, hb⟩

theorem add_small {n x y : Nat} (hx : x < T4 ^ (n + n)) (hy : y < T4 ^ (n + n)) : x + y < T4 ^ (n + n + 1) := by
  rw [Nat.pow_succ]; unfold T4 at *; omega
set_option maxHeartbeats 8000000 in
set_option maxRecDepth 100000 in
theorem rPlus_any (n : Nat) (u v : Value) (a b : Rat) (w : World) (hn : n ≤ 400000) (ha : FracR w u a) (hb : FracR w v b) (hsa : Sz n a) (hsb : Sz n b) :
    Calls Tryz.prog 23 #[u, v] w (FracPost (a + b) w) := by
  obtain ⟨A1, c1, l1, A2, c2, l2, rfl, ha1, ha2⟩ := ha
  obtain ⟨A3, c3, l3, A4, c4, l4, rfl, hb1, hb2⟩ := hb
  have la1 := ha1.len hsa.1
  have la2 := ha2.len hsa.2
  have lb1 := hb1.len hsb.1
  have lb2 := hb2.len hsb.2
  obtain ⟨W0, hW0⟩ : ∃ W0, W0 = ((w.alloc (.cells #[.bool (frS a), .slice A1 l1.length c1, .slice A2 l2.length c2] 39)).alloc (.cells #[.bool (frS b), .slice A3 l3.length c3, .slice A4 l4.length c4] 39)).alloc (.cells #[.bool false, .slice none 0 0, .slice none 0 0] 39) := ⟨_, rfl⟩
  have HST0 := Lib.hid (show St w W0 [(w.heap.size, .cells #[.bool (frS a), .slice A1 l1.length c1, .slice A2 l2.length c2] 39 (0, 0)), (w.heap.size + 1, .cells #[.bool (frS b), .slice A3 l3.length c3, .slice A4 l4.length c4] 39 (0, 0)), (w.heap.size + 1 + 1, .cells #[.bool false, .slice none 0 0, .slice none 0 0] 39 (0, 0))] by rw [hW0]; exact (((St.start w).alloc _ _ rfl).alloc _ _ (by simp)).alloc _ _ (by simp))
  have hs0 : W0.heap.size = w.heap.size + 3 := by rw [hW0]; simp
  have HX0 := Lib.hid (show FBox W0 (w.heap.size + 1 + 1) from HST0.out.at 2 rfl)
  have HA1 := Lib.hid (ha1.on HST0.out.below)
  have HA2 := Lib.hid (ha2.on HST0.out.below)
  have HA3 := Lib.hid (hb1.on HST0.out.below)
  have HA4 := Lib.hid (hb2.on HST0.out.below)
  have HM1 := Lib.hid (fun W (hb : Below W0.heap.size W0 W) => rnatMul_any A1 A4 c1 c4 l1 l4 _ _ W (HA1.out.on hb) (HA4.out.on hb) (by omega) (by omega))
  have HM2 := Lib.hid (fun W (hb : Below W0.heap.size W0 W) => rnatMul_any A3 A2 c3 c2 l3 l2 _ _ W (HA3.out.on hb) (HA2.out.on hb) (by omega) (by omega))
  have HM3 := Lib.hid (fun W (hb : Below W0.heap.size W0 W) => rnatMul_any A2 A4 c2 c4 l2 l4 _ _ W (HA2.out.on hb) (HA4.out.on hb) (by omega) (by omega))
  have hd : 0 < a.den * b.den := Nat.mul_pos a.den_pos b.den_pos
  have hx1 : frN a * b.den < T4 ^ (n + n) := by rw [Nat.pow_add]; exact Nat.mul_lt_mul'' hsa.1 hsb.2
  have hx2 : frN b * a.den < T4 ^ (n + n) := by rw [Nat.pow_add]; exact Nat.mul_lt_mul'' hsb.1 hsa.2
  have hx3 : a.den * b.den < T4 ^ (n + n) := by rw [Nat.pow_add]; exact Nat.mul_lt_mul'' hsa.2 hsb.2
  have hx4 := add_small hx1 hx2
  have HPS := Lib.hid (fun h => plus_same (a := a) (b := b) h)
  have HPG := Lib.hid (fun h => plus_ge (a := a) (b := b) h)
  have HPL := Lib.hid (fun h => plus_lt (a := a) (b := b) h)
  obtain ⟨X, hX⟩ : ∃ X, X = frN a * b.den := ⟨_, rfl⟩
  obtain ⟨Y, hY⟩ : ∃ Y, Y = frN b * a.den := ⟨_, rfl⟩
  obtain ⟨D, hD⟩ : ∃ D, D = a.den * b.den := ⟨_, rfl⟩
  rw [← hX] at HM1 hx1 hx4
  rw [← hY] at HM2 hx2 hx4
  rw [← hD] at HM3 hd hx3
  simp only [← hX, ← hY, ← hD] at HPS HPG HPL
  clear ha1 ha2 hb1 hb2 hsa hsb hX hY hD
  go_enter Tryz.func23, Tryz.ntmps23
  go_wp2_with fail
  rw [← hW0]
  clear hW0
  have HB := Lib.hid (Below.refl W0.heap.size W0)
  have HKS := Lib.hid (show ∀ X, Below W0.heap.size W0 X → (fun X => Below W0.heap.size W0 X ∧ X.cell? ⟨w.heap.size, 0, none⟩ = some (.bool (frS a)) ∧ X.cell? ⟨w.heap.size, 1, none⟩ = some (.slice A1 l1.length c1) ∧ X.cell? ⟨w.heap.size, 2, none⟩ = some (.slice A2 l2.length c2) ∧ X.cell? ⟨w.heap.size + 1, 0, none⟩ = some (.bool (frS b)) ∧ X.cell? ⟨w.heap.size + 1, 1, none⟩ = some (.slice A3 l3.length c3) ∧ X.cell? ⟨w.heap.size + 1, 2, none⟩ = some (.slice A4 l4.length c4)) X from fun X hX => ⟨hX, (HST0.out.call (below_next HB.out hX)).cell 0 0 rfl rfl, (HST0.out.call (below_next HB.out hX)).cell 0 1 rfl rfl, (HST0.out.call (below_next HB.out hX)).cell 0 2 rfl rfl, (HST0.out.call (below_next HB.out hX)).cell 1 0 rfl rfl, (HST0.out.call (below_next HB.out hX)).cell 1 1 rfl rfl, (HST0.out.call (below_next HB.out hX)).cell 1 2 rfl rfl⟩)
  go_region_held3 (fun X => Below W0.heap.size W0 X ∧ X.cell? ⟨w.heap.size, 0, none⟩ = some (.bool (frS a)) ∧ X.cell? ⟨w.heap.size, 1, none⟩ = some (.slice A1 l1.length c1) ∧ X.cell? ⟨w.heap.size, 2, none⟩ = some (.slice A2 l2.length c2) ∧ X.cell? ⟨w.heap.size + 1, 0, none⟩ = some (.bool (frS b)) ∧ X.cell? ⟨w.heap.size + 1, 1, none⟩ = some (.slice A3 l3.length c3) ∧ X.cell? ⟨w.heap.size + 1, 2, none⟩ = some (.slice A4 l4.length c4))
    (first
      | exact HKS.out _ (Below.refl _ W0).drew
      | (go_split_ands; refine HKS.out _ (below_next ?_ hb5); assumption)
      | (go_split_ands; refine HKS.out _ (below_next ?_ hb6); assumption)
      | (go_split_ands; refine HKS.out _ (below_next ?_ hb7); assumption))
    (first
      | (go_at_call 75; (with_reducible refine (HM1.out _ (by go_split_ands; assumption)).mono ?_); rintro e w5 ⟨A5, c5, l5, rfl, hn5, hb5⟩)
      | (go_at_call 75; (with_reducible refine (HM2.out _ (by go_split_ands; assumption)).mono ?_); rintro e w6 ⟨A6, c6, l6, rfl, hn6, hb6⟩)
      | (go_at_call 75; (with_reducible refine (HM3.out _ (by go_split_ands; assumption)).mono ?_); rintro e w7 ⟨A7, c7, l7, rfl, hn7, hb7⟩))
  have HB7 := Lib.hid (show Below W0.heap.size W0 w7 by go_split_ands; assumption)
  have HX5 := Lib.hid ((hn5.on hb6).on hb7)
  have HX6 := Lib.hid (hn6.on hb7)
  have HX7n := Lib.hid hn7
  have HX7 := Lib.hid (HX0.out.on HB7.out)
  clear hn5 hn6 hn7 hb5 hb6 hb7
  have HB := HB7
  have HKS := Lib.hid (show ∀ X, Below w7.heap.size w7 X → (fun X => Below w7.heap.size w7 X ∧ X.cell? ⟨w.heap.size, 0, none⟩ = some (.bool (frS a)) ∧ X.cell? ⟨w.heap.size, 1, none⟩ = some (.slice A1 l1.length c1) ∧ X.cell? ⟨w.heap.size, 2, none⟩ = some (.slice A2 l2.length c2) ∧ X.cell? ⟨w.heap.size + 1, 0, none⟩ = some (.bool (frS b)) ∧ X.cell? ⟨w.heap.size + 1, 1, none⟩ = some (.slice A3 l3.length c3) ∧ X.cell? ⟨w.heap.size + 1, 2, none⟩ = some (.slice A4 l4.length c4)) X from fun X hX => ⟨hX, (HST0.out.call (below_next HB.out hX)).cell 0 0 rfl rfl, (HST0.out.call (below_next HB.out hX)).cell 0 1 rfl rfl, (HST0.out.call (below_next HB.out hX)).cell 0 2 rfl rfl, (HST0.out.call (below_next HB.out hX)).cell 1 0 rfl rfl, (HST0.out.call (below_next HB.out hX)).cell 1 1 rfl rfl, (HST0.out.call (below_next HB.out hX)).cell 1 2 rfl rfl⟩)
  have e5 := HX5.out.len hx1
  have e6 := HX6.out.len hx2
  have e7 := HX7n.out.len hx3
  obtain ⟨_, f0, f1, f2, f3, f4, f5⟩ := HKS.out w7 (Below.refl _ w7)
  by_cases hs : frS a = frS b
  · have t1 : (frS a == frS b) = true := by simpa using hs
    have HL := Lib.hid (fun W A8 c8 l8 (hb : Below w7.heap.size w7 W) (h8 : RNatR W A8 c8 l8 (X + Y)) => rLowest_any (frS a) A8 A7 c8 c7 l8 l7 _ _ W h8 (HX7n.out.on hb) (by have := h8.len hx4; omega) (by omega) hd)
    rw [HPS.out hs] at HL
    have HOP := Lib.hid (fun W (hb : Below w7.heap.size w7 W) => rnatAdd_any A5 A6 c5 c6 l5 l6 X Y W (HX5.out.on hb) (HX6.out.on hb) (by omega) (by omega))
    clear hs
    go_wp2_with fail
    refine wp_region_last (init := #[_, _, _, _, _, _, _]) (last := _) rfl (by kernel_rfl) (by kernel_rfl) (by kernel_rfl) ?_
    show wpAny _ _ _ _ 7 (Array.replicate 7 false) _ _
    refine wpAny_of_held (S := (fun X => Below w7.heap.size w7 X ∧ X.cell? ⟨w.heap.size, 0, none⟩ = some (.bool (frS a)) ∧ X.cell? ⟨w.heap.size, 1, none⟩ = some (.slice A1 l1.length c1) ∧ X.cell? ⟨w.heap.size, 2, none⟩ = some (.slice A2 l2.length c2) ∧ X.cell? ⟨w.heap.size + 1, 0, none⟩ = some (.bool (frS b)) ∧ X.cell? ⟨w.heap.size + 1, 1, none⟩ = some (.slice A3 l3.length c3) ∧ X.cell? ⟨w.heap.size + 1, 2, none⟩ = some (.slice A4 l4.length c4))) _ _ _ _ ?_
    have HS0 := HKS.out _ (Below.refl _ w7).drew
    refine wpAnyH_take (i := 0) (v := ?_) rfl (by kernel_rfl) (by kernel_rfl) (by kernel_rfl) (fun _ _ _ h => h) (Or.inl ⟨by rfl, ?_⟩) HS0 ?_
    rotate_left
    · intro W hW; (try dsimp only at hW); go_simp; try (with_reducible rfl)
    (try simp only [List.getElem_toArray, List.getElem_cons_zero, Act.put, List.setIfInBounds_toArray, List.set_cons_zero, List.set_cons_succ])
    refine wpAnyH_take (i := 1) (v := ?_) rfl (by kernel_rfl) (by kernel_rfl) (by kernel_rfl) (fun _ _ _ h => h) (Or.inl ⟨by rfl, ?_⟩) HS0 ?_
    rotate_left
    · intro W hW; (try dsimp only at hW); go_simp; try (with_reducible rfl)
    (try simp only [List.getElem_toArray, List.getElem_cons_succ, List.getElem_cons_zero, Act.put, List.setIfInBounds_toArray, List.set_cons_zero, List.set_cons_succ])
    refine wpAnyH_take (i := 2) (v := ?_) rfl (by kernel_rfl) (by kernel_rfl) (by kernel_rfl) (fun _ _ _ h => h) (Or.inl ⟨by rfl, ?_⟩) HS0 ?_
    rotate_left
    · intro W hW; (try dsimp only at hW); go_simp; try (with_reducible rfl)
    (try simp only [List.getElem_toArray, List.getElem_cons_succ, List.getElem_cons_zero, Act.put, List.setIfInBounds_toArray, List.set_cons_zero, List.set_cons_succ])
    refine wpAnyH_take (i := 3) (v := ?_) rfl (by kernel_rfl) (by kernel_rfl) (by kernel_rfl) (fun _ _ _ h => h) (Or.inl ⟨by rfl, ?_⟩) HS0 ?_
    rotate_left
    · intro W hW; (try dsimp only at hW); go_simp; try (with_reducible rfl)
    (try simp only [List.getElem_toArray, List.getElem_cons_succ, List.getElem_cons_zero, Act.put, List.setIfInBounds_toArray, List.set_cons_zero, List.set_cons_succ])
    refine wpAnyH_take (i := 5) (v := ?_) rfl (by kernel_rfl) (by kernel_rfl) (by kernel_rfl) (fun _ _ _ h => h) (Or.inl ⟨by rfl, ?_⟩) HS0 ?_
    rotate_left
    · intro W hW; (try dsimp only at hW); go_simp; try (with_reducible rfl)
    (try simp only [List.getElem_toArray, List.getElem_cons_succ, List.getElem_cons_zero, Act.put, List.setIfInBounds_toArray, List.set_cons_zero, List.set_cons_succ])
    refine run_one (i := 4) (by kernel_rfl) rfl rfl ?_
    intro K hK
    go_simp
    refine (HOP.out _ HS0.1).mono ?_
    rintro e w8 ⟨A8, c8, l8, rfl, hn8, hb8⟩
    refine hK.out _ _ (HKS.out _ (below_next HS0.1 hb8)) ?_
    clear hK K
    have HSP := HS0
    clear HS0
    intro HS0
    refine run_one (i := 6) (by kernel_rfl) rfl rfl ?_
    intro K hK
    go_simp
    refine (HL.out _ A8 c8 l8 HS0.1 hn8).mono ?_
    rintro e w9 ⟨v9, rfl, hv9, hb9⟩
    refine hK.out _ _ (HKS.out _ (below_next HS0.1 hb9)) ?_
    clear hK K
    have HSP := HS0
    clear HS0
    intro HS0
    refine wpAnyH_done (by kernel_rfl) ?_ _
    simp only [LastQ]
    have HF := Lib.hid (fun W (hf : Fr (fun i => i = w.heap.size + 1 + 1) w9 W) => frac_ret2 (HX7.out.on HS0.1) hv9 (below_next HST0.out.below (below_next HB.out HS0.1)) (by omega) hf)
    obtain ⟨k0, k1, k2, z0, z1, z2, hlt⟩ := (HX7.out.on HS0.1).facts
    obtain ⟨A10, c10, l10, A11, c11, l11, rfl, _, _⟩ := hv9
    clear HS0 hb8 hb9 hn8
    go_simp
    go_wp2
    refine bodyPost_ret (v := .agg #[.bool (frS (a + b)), .slice A10 l10.length c10, .slice A11 l11.length c11]) (by simp [results, Tryz.results23, go_sem, k0, k1, k2]) rfl ⟨_, rfl, HF.out _ (fr3 _ _ _)⟩
  · have t1 : (frS a == frS b) = false := by simpa using hs
    have HC := Lib.hid (rnatCmp_any A5 A6 c5 c6 l5 l6 X Y w7 HX5.out HX6.out (by omega) (by omega))
    obtain ⟨cv, hcv⟩ : ∃ cv, cv = cmpN X Y := ⟨_, rfl⟩
    rw [← hcv] at HC
    by_cases hxy : Y ≤ X
    · skip
      have tc : decide (0 ≤ cv) = true := by rw [hcv]; unfold cmpN; split <;> (try split) <;> simp <;> omega
      have HL := Lib.hid (fun W A8 c8 l8 (hb : Below w7.heap.size w7 W) (h8 : RNatR W A8 c8 l8 (X - Y)) => rLowest_any (frS a) A8 A7 c8 c7 l8 l7 _ _ W h8 (HX7n.out.on hb) (by have := h8.len (n := n + n) (by omega); omega) (by omega) hd)
      rw [HPG.out hs (by omega)] at HL
      have HOP := Lib.hid (fun W (hb : Below w7.heap.size w7 W) => rnatSub_any A5 A6 c5 c6 l5 l6 X Y W (HX5.out.on hb) (HX6.out.on hb) (by omega) (by omega))
      clear hs hcv
      go_wp2_with fail
      refine HC.out.mono ?_
      rintro e wC ⟨rfl, qq, hqq⟩
      have hbC : Below w7.heap.size w7 wC := by rw [hqq]; exact below_drewN (Below.refl _ w7) qq
      clear hqq
      have HL2 := Lib.hid (fun W A8 c8 l8 (hb : Below wC.heap.size wC W) h8 => HL.out W A8 c8 l8 (below_next hbC hb) h8)
      have HOP2 := Lib.hid (fun W (hb : Below wC.heap.size wC W) => HOP.out W (below_next hbC hb))
      have HX7' := Lib.hid (HX7.out.on hbC)
      have HB' := Lib.hid (below_next HB.out hbC)
      clear HX7 HB HKS f0 f1 f2 f3 f4 f5 HB7 HOP HL hbC
      have HX7 := HX7'
      have HB := HB'
      have HKS := Lib.hid (show ∀ X, Below wC.heap.size wC X → (fun X => Below wC.heap.size wC X ∧ X.cell? ⟨w.heap.size, 0, none⟩ = some (.bool (frS a)) ∧ X.cell? ⟨w.heap.size, 1, none⟩ = some (.slice A1 l1.length c1) ∧ X.cell? ⟨w.heap.size, 2, none⟩ = some (.slice A2 l2.length c2) ∧ X.cell? ⟨w.heap.size + 1, 0, none⟩ = some (.bool (frS b)) ∧ X.cell? ⟨w.heap.size + 1, 1, none⟩ = some (.slice A3 l3.length c3) ∧ X.cell? ⟨w.heap.size + 1, 2, none⟩ = some (.slice A4 l4.length c4)) X from fun X hX => ⟨hX, (HST0.out.call (below_next HB.out hX)).cell 0 0 rfl rfl, (HST0.out.call (below_next HB.out hX)).cell 0 1 rfl rfl, (HST0.out.call (below_next HB.out hX)).cell 0 2 rfl rfl, (HST0.out.call (below_next HB.out hX)).cell 1 0 rfl rfl, (HST0.out.call (below_next HB.out hX)).cell 1 1 rfl rfl, (HST0.out.call (below_next HB.out hX)).cell 1 2 rfl rfl⟩)
      obtain ⟨_, f0, f1, f2, f3, f4, f5⟩ := HKS.out wC (Below.refl _ wC)
      go_wp2_with fail
      refine wp_region_last (init := #[_, _, _, _, _, _, _]) (last := _) rfl (by kernel_rfl) (by kernel_rfl) (by kernel_rfl) ?_
      show wpAny _ _ _ _ 7 (Array.replicate 7 false) _ _
      refine wpAny_of_held (S := (fun X => Below wC.heap.size wC X ∧ X.cell? ⟨w.heap.size, 0, none⟩ = some (.bool (frS a)) ∧ X.cell? ⟨w.heap.size, 1, none⟩ = some (.slice A1 l1.length c1) ∧ X.cell? ⟨w.heap.size, 2, none⟩ = some (.slice A2 l2.length c2) ∧ X.cell? ⟨w.heap.size + 1, 0, none⟩ = some (.bool (frS b)) ∧ X.cell? ⟨w.heap.size + 1, 1, none⟩ = some (.slice A3 l3.length c3) ∧ X.cell? ⟨w.heap.size + 1, 2, none⟩ = some (.slice A4 l4.length c4))) _ _ _ _ ?_
      have HS0 := HKS.out _ (Below.refl _ wC).drew
      refine wpAnyH_take (i := 0) (v := ?_) rfl (by kernel_rfl) (by kernel_rfl) (by kernel_rfl) (fun _ _ _ h => h) (Or.inl ⟨by rfl, ?_⟩) HS0 ?_
      rotate_left
      · intro W hW; (try dsimp only at hW); go_simp; try (with_reducible rfl)
      (try simp only [List.getElem_toArray, List.getElem_cons_zero, Act.put, List.setIfInBounds_toArray, List.set_cons_zero, List.set_cons_succ])
      refine wpAnyH_take (i := 1) (v := ?_) rfl (by kernel_rfl) (by kernel_rfl) (by kernel_rfl) (fun _ _ _ h => h) (Or.inl ⟨by rfl, ?_⟩) HS0 ?_
      rotate_left
      · intro W hW; (try dsimp only at hW); go_simp; try (with_reducible rfl)
      (try simp only [List.getElem_toArray, List.getElem_cons_succ, List.getElem_cons_zero, Act.put, List.setIfInBounds_toArray, List.set_cons_zero, List.set_cons_succ])
      refine wpAnyH_take (i := 2) (v := ?_) rfl (by kernel_rfl) (by kernel_rfl) (by kernel_rfl) (fun _ _ _ h => h) (Or.inl ⟨by rfl, ?_⟩) HS0 ?_
      rotate_left
      · intro W hW; (try dsimp only at hW); go_simp; try (with_reducible rfl)
      (try simp only [List.getElem_toArray, List.getElem_cons_succ, List.getElem_cons_zero, Act.put, List.setIfInBounds_toArray, List.set_cons_zero, List.set_cons_succ])
      refine wpAnyH_take (i := 3) (v := ?_) rfl (by kernel_rfl) (by kernel_rfl) (by kernel_rfl) (fun _ _ _ h => h) (Or.inl ⟨by rfl, ?_⟩) HS0 ?_
      rotate_left
      · intro W hW; (try dsimp only at hW); go_simp; try (with_reducible rfl)
      (try simp only [List.getElem_toArray, List.getElem_cons_succ, List.getElem_cons_zero, Act.put, List.setIfInBounds_toArray, List.set_cons_zero, List.set_cons_succ])
      refine wpAnyH_take (i := 5) (v := ?_) rfl (by kernel_rfl) (by kernel_rfl) (by kernel_rfl) (fun _ _ _ h => h) (Or.inl ⟨by rfl, ?_⟩) HS0 ?_
      rotate_left
      · intro W hW; (try dsimp only at hW); go_simp; try (with_reducible rfl)
      (try simp only [List.getElem_toArray, List.getElem_cons_succ, List.getElem_cons_zero, Act.put, List.setIfInBounds_toArray, List.set_cons_zero, List.set_cons_succ])
      refine run_one (i := 4) (by kernel_rfl) rfl rfl ?_
      intro K hK
      go_simp
      refine (HOP2.out _ HS0.1).mono ?_
      rintro e w8 ⟨A8, c8, l8, rfl, hn8, hb8⟩
      refine hK.out _ _ (HKS.out _ (below_next HS0.1 hb8)) ?_
      clear hK K
      have HSP := HS0
      clear HS0
      intro HS0
      refine run_one (i := 6) (by kernel_rfl) rfl rfl ?_
      intro K hK
      go_simp
      refine (HL2.out _ A8 c8 l8 HS0.1 hn8).mono ?_
      rintro e w9 ⟨v9, rfl, hv9, hb9⟩
      refine hK.out _ _ (HKS.out _ (below_next HS0.1 hb9)) ?_
      clear hK K
      have HSP := HS0
      clear HS0
      intro HS0
      refine wpAnyH_done (by kernel_rfl) ?_ _
      simp only [LastQ]
      have HF := Lib.hid (fun W (hf : Fr (fun i => i = w.heap.size + 1 + 1) w9 W) => frac_ret2 (HX7.out.on HS0.1) hv9 (below_next HST0.out.below (below_next HB.out HS0.1)) (by omega) hf)
      obtain ⟨k0, k1, k2, z0, z1, z2, hlt⟩ := (HX7.out.on HS0.1).facts
      obtain ⟨A10, c10, l10, A11, c11, l11, rfl, _, _⟩ := hv9
      clear HS0 hb8 hb9 hn8
      go_simp
      go_wp2
      refine bodyPost_ret (v := .agg #[.bool (frS (a + b)), .slice A10 l10.length c10, .slice A11 l11.length c11]) (by simp [results, Tryz.results23, go_sem, k0, k1, k2]) rfl ⟨_, rfl, HF.out _ (fr3 _ _ _)⟩
    · skip
      have tc : decide (0 ≤ cv) = false := by rw [hcv]; unfold cmpN; split <;> (try split) <;> simp <;> omega
      have HL := Lib.hid (fun W A8 c8 l8 (hb : Below w7.heap.size w7 W) (h8 : RNatR W A8 c8 l8 (Y - X)) => rLowest_any (frS b) A8 A7 c8 c7 l8 l7 _ _ W h8 (HX7n.out.on hb) (by have := h8.len (n := n + n) (by omega); omega) (by omega) hd)
      rw [HPL.out hs (by omega)] at HL
      have HOP := Lib.hid (fun W (hb : Below w7.heap.size w7 W) => rnatSub_any A6 A5 c6 c5 l6 l5 Y X W (HX6.out.on hb) (HX5.out.on hb) (by omega) (by omega))
      clear hs hcv
      go_wp2_with fail
      refine HC.out.mono ?_
      rintro e wC ⟨rfl, qq, hqq⟩
      have hbC : Below w7.heap.size w7 wC := by rw [hqq]; exact below_drewN (Below.refl _ w7) qq
      clear hqq
      have HL2 := Lib.hid (fun W A8 c8 l8 (hb : Below wC.heap.size wC W) h8 => HL.out W A8 c8 l8 (below_next hbC hb) h8)
      have HOP2 := Lib.hid (fun W (hb : Below wC.heap.size wC W) => HOP.out W (below_next hbC hb))
      have HX7' := Lib.hid (HX7.out.on hbC)
      have HB' := Lib.hid (below_next HB.out hbC)
      clear HX7 HB HKS f0 f1 f2 f3 f4 f5 HB7 HOP HL hbC
      have HX7 := HX7'
      have HB := HB'
      have HKS := Lib.hid (show ∀ X, Below wC.heap.size wC X → (fun X => Below wC.heap.size wC X ∧ X.cell? ⟨w.heap.size, 0, none⟩ = some (.bool (frS a)) ∧ X.cell? ⟨w.heap.size, 1, none⟩ = some (.slice A1 l1.length c1) ∧ X.cell? ⟨w.heap.size, 2, none⟩ = some (.slice A2 l2.length c2) ∧ X.cell? ⟨w.heap.size + 1, 0, none⟩ = some (.bool (frS b)) ∧ X.cell? ⟨w.heap.size + 1, 1, none⟩ = some (.slice A3 l3.length c3) ∧ X.cell? ⟨w.heap.size + 1, 2, none⟩ = some (.slice A4 l4.length c4)) X from fun X hX => ⟨hX, (HST0.out.call (below_next HB.out hX)).cell 0 0 rfl rfl, (HST0.out.call (below_next HB.out hX)).cell 0 1 rfl rfl, (HST0.out.call (below_next HB.out hX)).cell 0 2 rfl rfl, (HST0.out.call (below_next HB.out hX)).cell 1 0 rfl rfl, (HST0.out.call (below_next HB.out hX)).cell 1 1 rfl rfl, (HST0.out.call (below_next HB.out hX)).cell 1 2 rfl rfl⟩)
      obtain ⟨_, f0, f1, f2, f3, f4, f5⟩ := HKS.out wC (Below.refl _ wC)
      go_wp2_with fail
      refine wp_region_last (init := #[_, _, _, _, _, _, _]) (last := _) rfl (by kernel_rfl) (by kernel_rfl) (by kernel_rfl) ?_
      show wpAny _ _ _ _ 7 (Array.replicate 7 false) _ _
      refine wpAny_of_held (S := (fun X => Below wC.heap.size wC X ∧ X.cell? ⟨w.heap.size, 0, none⟩ = some (.bool (frS a)) ∧ X.cell? ⟨w.heap.size, 1, none⟩ = some (.slice A1 l1.length c1) ∧ X.cell? ⟨w.heap.size, 2, none⟩ = some (.slice A2 l2.length c2) ∧ X.cell? ⟨w.heap.size + 1, 0, none⟩ = some (.bool (frS b)) ∧ X.cell? ⟨w.heap.size + 1, 1, none⟩ = some (.slice A3 l3.length c3) ∧ X.cell? ⟨w.heap.size + 1, 2, none⟩ = some (.slice A4 l4.length c4))) _ _ _ _ ?_
      have HS0 := HKS.out _ (Below.refl _ wC).drew
      refine wpAnyH_take (i := 0) (v := ?_) rfl (by kernel_rfl) (by kernel_rfl) (by kernel_rfl) (fun _ _ _ h => h) (Or.inl ⟨by rfl, ?_⟩) HS0 ?_
      rotate_left
      · intro W hW; (try dsimp only at hW); go_simp; try (with_reducible rfl)
      (try simp only [List.getElem_toArray, List.getElem_cons_zero, Act.put, List.setIfInBounds_toArray, List.set_cons_zero, List.set_cons_succ])
      refine wpAnyH_take (i := 1) (v := ?_) rfl (by kernel_rfl) (by kernel_rfl) (by kernel_rfl) (fun _ _ _ h => h) (Or.inl ⟨by rfl, ?_⟩) HS0 ?_
      rotate_left
      · intro W hW; (try dsimp only at hW); go_simp; try (with_reducible rfl)
      (try simp only [List.getElem_toArray, List.getElem_cons_succ, List.getElem_cons_zero, Act.put, List.setIfInBounds_toArray, List.set_cons_zero, List.set_cons_succ])
      refine wpAnyH_take (i := 2) (v := ?_) rfl (by kernel_rfl) (by kernel_rfl) (by kernel_rfl) (fun _ _ _ h => h) (Or.inl ⟨by rfl, ?_⟩) HS0 ?_
      rotate_left
      · intro W hW; (try dsimp only at hW); go_simp; try (with_reducible rfl)
      (try simp only [List.getElem_toArray, List.getElem_cons_succ, List.getElem_cons_zero, Act.put, List.setIfInBounds_toArray, List.set_cons_zero, List.set_cons_succ])
      refine wpAnyH_take (i := 3) (v := ?_) rfl (by kernel_rfl) (by kernel_rfl) (by kernel_rfl) (fun _ _ _ h => h) (Or.inl ⟨by rfl, ?_⟩) HS0 ?_
      rotate_left
      · intro W hW; (try dsimp only at hW); go_simp; try (with_reducible rfl)
      (try simp only [List.getElem_toArray, List.getElem_cons_succ, List.getElem_cons_zero, Act.put, List.setIfInBounds_toArray, List.set_cons_zero, List.set_cons_succ])
      refine wpAnyH_take (i := 5) (v := ?_) rfl (by kernel_rfl) (by kernel_rfl) (by kernel_rfl) (fun _ _ _ h => h) (Or.inl ⟨by rfl, ?_⟩) HS0 ?_
      rotate_left
      · intro W hW; (try dsimp only at hW); go_simp; try (with_reducible rfl)
      (try simp only [List.getElem_toArray, List.getElem_cons_succ, List.getElem_cons_zero, Act.put, List.setIfInBounds_toArray, List.set_cons_zero, List.set_cons_succ])
      refine run_one (i := 4) (by kernel_rfl) rfl rfl ?_
      intro K hK
      go_simp
      refine (HOP2.out _ HS0.1).mono ?_
      rintro e w8 ⟨A8, c8, l8, rfl, hn8, hb8⟩
      refine hK.out _ _ (HKS.out _ (below_next HS0.1 hb8)) ?_
      clear hK K
      have HSP := HS0
      clear HS0
      intro HS0
      refine run_one (i := 6) (by kernel_rfl) rfl rfl ?_
      intro K hK
      go_simp
      refine (HL2.out _ A8 c8 l8 HS0.1 hn8).mono ?_
      rintro e w9 ⟨v9, rfl, hv9, hb9⟩
      refine hK.out _ _ (HKS.out _ (below_next HS0.1 hb9)) ?_
      clear hK K
      have HSP := HS0
      clear HS0
      intro HS0
      refine wpAnyH_done (by kernel_rfl) ?_ _
      simp only [LastQ]
      have HF := Lib.hid (fun W (hf : Fr (fun i => i = w.heap.size + 1 + 1) w9 W) => frac_ret2 (HX7.out.on HS0.1) hv9 (below_next HST0.out.below (below_next HB.out HS0.1)) (by omega) hf)
      obtain ⟨k0, k1, k2, z0, z1, z2, hlt⟩ := (HX7.out.on HS0.1).facts
      obtain ⟨A10, c10, l10, A11, c11, l11, rfl, _, _⟩ := hv9
      clear HS0 hb8 hb9 hn8
      go_simp
      go_wp2
      refine bodyPost_ret (v := .agg #[.bool (frS (a + b)), .slice A10 l10.length c10, .slice A11 l11.length c11]) (by simp [results, Tryz.results23, go_sem, k0, k1, k2]) rfl ⟨_, rfl, HF.out _ (fr3 _ _ _)⟩

theorem sz_neg {n : Nat} {a : Rat} (h : Sz n a) : Sz n (-a) := by
  obtain ⟨_, m2, m3⟩ := minus_parts a
  exact ⟨by rw [m2]; exact h.1, by rw [m3]; exact h.2⟩
set_option maxHeartbeats 4000000 in
set_option maxRecDepth 100000 in
theorem rLess_any (n : Nat) (u v : Value) (a b : Rat) (w : World) (hn : n ≤ 400000) (ha : FracR w u a) (hb : FracR w v b) (hsa : Sz n a) (hsb : Sz n b) :
    Calls Tryz.prog 74 #[u, v] w (FracPost (a - b) w) := by
  have HFA := Lib.hid ha
  have HFB := Lib.hid hb
  obtain ⟨A1, c1, l1, A2, c2, l2, rfl, ha1, ha2⟩ := ha
  obtain ⟨A3, c3, l3, A4, c4, l4, rfl, hb1, hb2⟩ := hb
  have la1 := ha1.len hsa.1
  have la2 := ha2.len hsa.2
  have lb1 := hb1.len hsb.1
  have lb2 := hb2.len hsb.2
  obtain ⟨W0, hW0⟩ : ∃ W0, W0 = ((w.alloc (.cells #[.bool (frS a), .slice A1 l1.length c1, .slice A2 l2.length c2] 39)).alloc (.cells #[.bool (frS b), .slice A3 l3.length c3, .slice A4 l4.length c4] 39)).alloc (.cells #[.bool false, .slice none 0 0, .slice none 0 0] 39) := ⟨_, rfl⟩
  have HST0 := Lib.hid (show St w W0 [(w.heap.size, .cells #[.bool (frS a), .slice A1 l1.length c1, .slice A2 l2.length c2] 39 (0, 0)), (w.heap.size + 1, .cells #[.bool (frS b), .slice A3 l3.length c3, .slice A4 l4.length c4] 39 (0, 0)), (w.heap.size + 1 + 1, .cells #[.bool false, .slice none 0 0, .slice none 0 0] 39 (0, 0))] by rw [hW0]; exact (((St.start w).alloc _ _ rfl).alloc _ _ (by simp)).alloc _ _ (by simp))
  have hs0 : W0.heap.size = w.heap.size + 3 := by rw [hW0]; simp
  have HX0 := Lib.hid (show FBox W0 (w.heap.size + 1 + 1) from HST0.out.at 2 rfl)
  have HA1 := Lib.hid (ha1.on HST0.out.below)
  have HA2 := Lib.hid (ha2.on HST0.out.below)
  have HA3 := Lib.hid (hb1.on HST0.out.below)
  have HA4 := Lib.hid (hb2.on HST0.out.below)
  have HM := Lib.hid (fun W (hb : Below W0.heap.size W0 W) => rMinus_any _ b W (HFB.out.on (below_next HST0.out.below hb)))
  have HP := Lib.hid (fun W v5 (hb : Below W0.heap.size W0 W) (h5 : FracR W v5 (-b)) => rPlus_any n _ v5 a (-b) W hn (HFA.out.on (below_next HST0.out.below hb)) h5 hsa (sz_neg hsb))
  rw [← Rat.sub_eq_add_neg] at HP
  clear ha1 ha2 hb1 hb2 hsa hsb
  go_enter Tryz.func74, Tryz.ntmps74
  go_wp2_with fail
  rw [← hW0]
  clear hW0
  have HB := Lib.hid (Below.refl W0.heap.size W0)
  have HKS := Lib.hid (show ∀ X, Below W0.heap.size W0 X → (fun X => Below W0.heap.size W0 X ∧ X.cell? ⟨w.heap.size, 0, none⟩ = some (.bool (frS a)) ∧ X.cell? ⟨w.heap.size, 1, none⟩ = some (.slice A1 l1.length c1) ∧ X.cell? ⟨w.heap.size, 2, none⟩ = some (.slice A2 l2.length c2) ∧ X.cell? ⟨w.heap.size + 1, 0, none⟩ = some (.bool (frS b)) ∧ X.cell? ⟨w.heap.size + 1, 1, none⟩ = some (.slice A3 l3.length c3) ∧ X.cell? ⟨w.heap.size + 1, 2, none⟩ = some (.slice A4 l4.length c4)) X from fun X hX => ⟨hX, (HST0.out.call (below_next HB.out hX)).cell 0 0 rfl rfl, (HST0.out.call (below_next HB.out hX)).cell 0 1 rfl rfl, (HST0.out.call (below_next HB.out hX)).cell 0 2 rfl rfl, (HST0.out.call (below_next HB.out hX)).cell 1 0 rfl rfl, (HST0.out.call (below_next HB.out hX)).cell 1 1 rfl rfl, (HST0.out.call (below_next HB.out hX)).cell 1 2 rfl rfl⟩)
  refine wp_region_last (init := #[_, _, _, _]) (last := _) rfl (by kernel_rfl) (by kernel_rfl) (by kernel_rfl) ?_
  show wpAny _ _ _ _ 4 (Array.replicate 4 false) _ _
  refine wpAny_of_held (S := (fun X => Below W0.heap.size W0 X ∧ X.cell? ⟨w.heap.size, 0, none⟩ = some (.bool (frS a)) ∧ X.cell? ⟨w.heap.size, 1, none⟩ = some (.slice A1 l1.length c1) ∧ X.cell? ⟨w.heap.size, 2, none⟩ = some (.slice A2 l2.length c2) ∧ X.cell? ⟨w.heap.size + 1, 0, none⟩ = some (.bool (frS b)) ∧ X.cell? ⟨w.heap.size + 1, 1, none⟩ = some (.slice A3 l3.length c3) ∧ X.cell? ⟨w.heap.size + 1, 2, none⟩ = some (.slice A4 l4.length c4))) _ _ _ _ ?_
  have HS0 := HKS.out _ (Below.refl _ W0).drew
  refine wpAnyH_take (i := 0) (v := ?_) rfl (by kernel_rfl) (by kernel_rfl) (by kernel_rfl) (fun _ _ _ h => h) (Or.inl ⟨by rfl, ?_⟩) HS0 ?_
  rotate_left
  · intro W hW; (try dsimp only at hW); go_simp; try (with_reducible rfl)
  (try simp only [List.getElem_toArray, List.getElem_cons_zero, Act.put, List.setIfInBounds_toArray, List.set_cons_zero, List.set_cons_succ])
  refine wpAnyH_take (i := 1) (v := ?_) rfl (by kernel_rfl) (by kernel_rfl) (by kernel_rfl) (fun _ _ _ h => h) (Or.inl ⟨by rfl, ?_⟩) HS0 ?_
  rotate_left
  · intro W hW; (try dsimp only at hW); go_simp; try (with_reducible rfl)
  (try simp only [List.getElem_toArray, List.getElem_cons_succ, List.getElem_cons_zero, Act.put, List.setIfInBounds_toArray, List.set_cons_zero, List.set_cons_succ])
  refine run_one (i := 2) (by kernel_rfl) rfl rfl ?_
  intro K hK
  go_simp
  refine (HM.out _ HS0.1).mono ?_
  rintro e w6 ⟨v6, rfl, hv6, hb6⟩
  refine hK.out _ _ (HKS.out _ (below_next HS0.1 hb6)) ?_
  clear hK K
  have HSP := HS0
  clear HS0
  intro HS0
  refine run_one (i := 3) (by kernel_rfl) rfl rfl ?_
  intro K hK
  go_simp
  refine (HP.out _ v6 HS0.1 hv6).mono ?_
  rintro e w7 ⟨v7, rfl, hv7, hb7⟩
  refine hK.out _ _ (HKS.out _ (below_next HS0.1 hb7)) ?_
  clear hK K
  have HSP := HS0
  clear HS0
  intro HS0
  refine wpAnyH_done (by kernel_rfl) ?_ _
  simp only [LastQ]
  have HF := Lib.hid (fun W (hf : Fr (fun i => i = w.heap.size + 1 + 1) w7 W) => frac_ret2 (HX0.out.on HS0.1) hv7 (below_next HST0.out.below HS0.1) (by omega) hf)
  obtain ⟨k0, k1, k2, z0, z1, z2, hlt⟩ := (HX0.out.on HS0.1).facts
  obtain ⟨A8, c8, l8, A9, c9, l9, rfl, _, _⟩ := hv7
  clear HS0 hb6 hb7
  go_simp
  go_wp2
  refine bodyPost_ret (v := .agg #[.bool (frS (a - b)), .slice A8 l8.length c8, .slice A9 l9.length c9]) (by simp [results, Tryz.results74, go_sem, k0, k1, k2]) rfl ⟨_, rfl, HF.out _ (fr3 _ _ _)⟩

end Go.Proofs.YtepfmoaihhonlaaGreatDoor

/- How large the parts of fractions can be: plain. -/
namespace Go.Proofs.YtepfmoaihhonlaaGreatDoor

theorem mk_le (b : Bool) (n : Nat) {d : Nat} (hd : 0 < d) : frN (mkRat (sg b n) d) ≤ n ∧ (mkRat (sg b n) d).den ≤ d := by
  rcases Nat.eq_zero_or_pos n with rfl | h
  · rw [low_zero]; exact ⟨Nat.le_refl _, hd⟩
  · obtain ⟨_, h2, h3⟩ := low_pos (b := b) h hd
    rw [h2, h3]
    exact ⟨Nat.div_le_self _ _, Nat.div_le_self _ _⟩
theorem sz_mono {n m : Nat} {a : Rat} (h : Sz n a) (hnm : n ≤ m) : Sz m a := by
  have : T4 ^ n ≤ T4 ^ m := Nat.pow_le_pow_right (by unfold T4; omega) hnm
  exact ⟨Nat.lt_of_lt_of_le h.1 this, Nat.lt_of_lt_of_le h.2 this⟩
theorem sz_mul {n m : Nat} {a b : Rat} (ha : Sz n a) (hb : Sz m b) : Sz (n + m) (a * b) := by
  have h := mk_le (frS a != frS b) (frN a * frN b) (Nat.mul_pos a.den_pos b.den_pos)
  rw [times_eq] at h
  refine ⟨?_, ?_⟩
  · exact Nat.lt_of_le_of_lt h.1 (by rw [Nat.pow_add]; exact Nat.mul_lt_mul'' ha.1 hb.1)
  · exact Nat.lt_of_le_of_lt h.2 (by rw [Nat.pow_add]; exact Nat.mul_lt_mul'' ha.2 hb.2)
theorem sz_add {n m : Nat} {a b : Rat} (ha : Sz n a) (hb : Sz m b) : Sz (n + m + 1) (a + b) := by
  have hx : frN a * b.den < T4 ^ (n + m) := by rw [Nat.pow_add]; exact Nat.mul_lt_mul'' ha.1 hb.2
  have hy : frN b * a.den < T4 ^ (n + m) := by rw [Nat.pow_add, Nat.mul_comm]; exact Nat.mul_lt_mul'' ha.2 hb.1
  have hd : a.den * b.den < T4 ^ (n + m) := by rw [Nat.pow_add]; exact Nat.mul_lt_mul'' ha.2 hb.2
  have hp := Nat.mul_pos a.den_pos b.den_pos
  have e : T4 ^ (n + m + 1) = T4 ^ (n + m) * 10000 := Nat.pow_succ T4 (n + m)
  have key : frN (a + b) ≤ frN a * b.den + frN b * a.den ∧ (a + b).den ≤ a.den * b.den := by
    by_cases hs : frS a = frS b
    · have h := mk_le (frS a) (frN a * b.den + frN b * a.den) hp
      rw [plus_same hs] at h; exact h
    · rcases Nat.le_total (frN b * a.den) (frN a * b.den) with hc | hc
      · have h := mk_le (frS a) (frN a * b.den - frN b * a.den) hp
        rw [plus_ge hs hc] at h; exact ⟨by omega, h.2⟩
      · have h := mk_le (frS b) (frN b * a.den - frN a * b.den) hp
        rw [plus_lt hs hc] at h; exact ⟨by omega, h.2⟩
  exact ⟨by rw [e]; omega, by rw [e]; omega⟩
theorem sz_sub {n m : Nat} {a b : Rat} (ha : Sz n a) (hb : Sz m b) : Sz (n + m + 1) (a - b) := by
  rw [Rat.sub_eq_add_neg]; exact sz_add ha (sz_neg hb)
theorem sz_part {n : Nat} {z : Int} {d : Nat} (hd : 0 < d) (h1 : z.natAbs < T4 ^ n) (h2 : d < T4 ^ n) : Sz n (mkRat z d) := by
  have h := mk_le (decide (z < 0)) z.natAbs hd
  rw [sg_self] at h
  exact ⟨Nat.lt_of_le_of_lt h.1 h1, Nat.lt_of_le_of_lt h.2 h2⟩
theorem sz_int {n : Nat} {z : Int} (hn : 1 ≤ n) (h1 : z.natAbs < T4 ^ n) : Sz n (z : Rat) := by
  refine ⟨h1, ?_⟩
  have : T4 ^ 1 ≤ T4 ^ n := Nat.pow_le_pow_right (by unfold T4; omega) hn
  rw [Nat.pow_one] at this
  show 1 < _
  unfold T4 at *; omega
/-- the area of a part of a stage, as the reference adds it up -/
def stA (s : Int × Int × Int) (long : Int) : Rat := (((s.2.1 : Int) : Rat) + (((s.2.1 : Int) : Rat) + (((s.2.2 - s.2.1 : Int)) : Rat) * mkRat long s.1.toNat)) * mkRat 1 2 * mkRat long 1000000000
/-- the sum of the first ones up to a time -/
def accR (l : List (Int × Int × Int)) (t : Int) : Nat → Rat
  | 0 => 0
  | k + 1 => accR l t k + (match l[k]? with | some s => stA s (min s.1 (t - ((l.take k).map (·.1)).sum)) | none => 0)
end Go.Proofs.YtepfmoaihhonlaaGreatDoor

/- Package dynamometerref0: Order, Floor, Int. -/
namespace Go.Proofs.YtepfmoaihhonlaaGreatDoor
open Go Go.RowKit Go.Proofs

theorem sgnQ_sub (a b : Rat) : sgnQ (a - b) = ordQ a b := ordQ_eq a b
set_option maxHeartbeats 2000000 in
set_option maxRecDepth 100000 in
theorem rOrder_any (n : Nat) (u v : Value) (a b : Rat) (w : World) (hn : n ≤ 400000) (ha : FracR w u a) (hb : FracR w v b) (hsa : Sz n a) (hsb : Sz n b) :
    Calls Tryz.prog 22 #[u, v] w fun e w' => e = .returned (.int .i64 (ordQ a b)) ∧ Below w.heap.size w w' := by
  have HFA := Lib.hid ha
  have HFB := Lib.hid hb
  obtain ⟨A1, c1, l1, A2, c2, l2, rfl, ha1, ha2⟩ := ha
  obtain ⟨A3, c3, l3, A4, c4, l4, rfl, hb1, hb2⟩ := hb
  have HL := Lib.hid (fun W (hb : Below w.heap.size w W) => rLess_any n _ _ a b W hn (HFA.out.on hb) (HFB.out.on hb) hsa hsb)
  have HS := Lib.hid (fun W v (h : FracR W v (a - b)) => rSign_any v (a - b) W h)
  rw [sgnQ_sub] at HS
  have hbl := two_on (w := w) (.cells #[.bool (frS a), .slice A1 l1.length c1, .slice A2 l2.length c2] 39) (.cells #[.bool (frS b), .slice A3 l3.length c3, .slice A4 l4.length c4] 39)
  have HBL := Lib.hid hbl
  clear ha1 ha2 hb1 hb2 hbl hsa hsb
  go_enter Tryz.func22, Tryz.ntmps22
  go_wp2_with fail
  refine (HL.out _ HBL.out).mono ?_
  rintro e w1 ⟨v1, rfl, hv1, hb1⟩
  have HS1 := Lib.hid (HS.out w1 v1 hv1)
  have HB1 := Lib.hid (below_next HBL.out hb1)
  clear hv1 hb1
  go_wp2_with fail
  refine HS1.out.mono ?_
  rintro e w2 ⟨rfl, hb2⟩
  have HB2 := Lib.hid (below_next HB1.out hb2)
  clear hb2
  go_wp2
  go_ret
  exact ⟨rfl, HB2.out⟩

/-- what Int tells -/
def intV (x : Nat) (most : Int) : Value := if most.toNat < x then .tuple #[.int .i64 0, .bool false] else .tuple #[.int .i64 (x : Int), .bool true]
theorem val_drop_le (l : List Nat) (k : Nat) : val T4 (l.drop k) ≤ val T4 l := by
  induction l generalizing k with
  | nil => simp
  | cons d l ih =>
    cases k with
    | zero => simp
    | succ k =>
      have := ih k
      simp only [List.drop_succ_cons, val]
      have h2 : val T4 l ≤ T4 * val T4 l := Nat.le_mul_of_pos_left _ (by unfold T4; omega)
      omega
end Go.Proofs.YtepfmoaihhonlaaGreatDoor
