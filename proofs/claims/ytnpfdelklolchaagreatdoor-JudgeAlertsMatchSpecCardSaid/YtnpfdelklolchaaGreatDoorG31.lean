import Derived.Test.YtnpfdelklolchaaGreatDoorG10
import Derived.Test.YtnpfdelklolchaaGreatDoorG29
import Derived.Test.YtnpfdelklolchaaGreatDoorAlMath
import Derived.Test.YtnpfdelklolchaaGreatDoorG16
import Derived.Test.YtnpfdelklolchaaGreatDoorG25
import Derived.Test.YtnpfdelklolchaaGreatDoorG1
import Derived.Test.YtnpfdelklolchaaGreatDoorG0
/- One operation of a drawn region, where it comes up: what it does as a closed fact for the kernel. No program in sight. -/
namespace Go.Proofs.YtnpfdelklolchaaGreatDoor
open Go Go.RowKit

section
variable {P : Program} {Q : Exit → Act → World → Prop}
end
end Go.Proofs.YtnpfdelklolchaaGreatDoor

/- The order of alerts: the closure that judge.Alerts sorts by. -/
namespace Go.Proofs.YtnpfdelklolchaaGreatDoor
open Go Go.RowKit Go.Proofs

section
variable {P : Program} {Q : Exit → Act → World → Prop} {md : Region.Mode} {ops : Array Oper} {S : World → Prop}
theorem run_oneG {i : Nat} {o : Oper} {fuel : Nat} {listed : Array Bool} {a : Act} {w : World} (hr : Region.ready md ops listed = [i]) (ho : ops[i]? = some o) (hg : Region.wanted o (yielded ops a.tmps) = true)
    (h : ∀ K : Act → World → Prop, Hid (∀ a' w', S w' → (S w' → wpAnyH P md ops Q S fuel (listed.setIfInBounds i true) a' w') → K a' w') → o.wp P a w K Q) : wpAnyH P md ops Q S (fuel + 1) listed a w := by
  refine wpAnyH_all (rs := [i]) hr (by simp) fun j hj => ?_
  obtain rfl : j = i := by simpa using hj
  unfold wpOp
  rw [ho]
  simp only [hg, if_true]
  exact .inl (h _ (fun a' w' h1 h2 => ⟨h1, h2 h1⟩))
end
/-- as the closure tells -/
def cmpA (x y : Al) : Int := if x.2.1 < y.2.1 then -1 else if y.2.1 < x.2.1 then 1 else x.1 - y.1
/-- a rule's number is small -/
def SmA (x : Al) : Prop := 0 ≤ x.1 ∧ x.1 ≤ 1000000
def ltA (x y : Al) : Prop := cmpA x y < 0
theorem ltA_iff {x y : Al} : ltA x y ↔ x.2.1 < y.2.1 ∨ (x.2.1 = y.2.1 ∧ x.1 < y.1) := by
  unfold ltA cmpA
  by_cases h1 : x.2.1 < y.2.1
  · rw [if_pos h1]; constructor
    · intro _; exact .inl h1
    · intro _; decide
  · rw [if_neg h1]
    by_cases h2 : y.2.1 < x.2.1
    · rw [if_pos h2]; constructor
      · intro h; exact absurd h (by decide)
      · intro h; omega
    · rw [if_neg h2]; constructor <;> intro h <;> omega
theorem ltA_trans (x y z : Al) (h1 : ltA x y) (h2 : ltA y z) : ltA x z := by
  rw [ltA_iff] at *; omega
/-- two alerts bear other keys -/
def DfA (x y : Al) : Prop := x.2.1 ≠ y.2.1 ∨ x.1 ≠ y.1
theorem ltA_total {x y : Al} (h : DfA x y) (h1 : ¬ ltA x y) : ltA y x := by
  unfold DfA at h
  rw [ltA_iff] at *; omega
theorem DfA.symm {x y : Al} (h : DfA x y) : DfA y x := by unfold DfA at *; omega
/-- all alerts of a list have other keys, and small rules -/
def OkA (l : List Al) : Prop := l.Pairwise DfA ∧ ∀ x ∈ l, SmA x
theorem PermOn.all {l l' : List Al} {a b : Nat} (h : PermOn l l' a b) (hab : a ≤ b) : l.Perm l' := by
  have e1 : l'.take a = l.take a := by
    apply List.ext_getElem?
    intro k
    rcases Nat.lt_or_ge k a with h1 | h1
    · rw [List.getElem?_take_of_lt h1, List.getElem?_take_of_lt h1, h.out k (.inl h1)]
    · rw [List.getElem?_take_eq_none h1, List.getElem?_take_eq_none h1]
  have e2 : l'.drop b = l.drop b := by
    apply List.ext_getElem?
    intro k
    rw [List.getElem?_drop, List.getElem?_drop, h.out _ (.inr (by omega))]
  rw [← sgm_split (l := l) hab, ← sgm_split (l := l') hab, e1, e2]
  exact ((List.Perm.refl _).append h.perm).append (List.Perm.refl _)
theorem OkA.perm {l l' : List Al} (h : OkA l) (hp : l.Perm l') : OkA l' :=
  ⟨(hp.pairwise_iff (fun h => DfA.symm h)).1 h.1, fun x hx => h.2 x (hp.mem_iff.2 hx)⟩
theorem OkA.df {l : List Al} (h : OkA l) {p q : Nat} {x y : Al} (hpq : p ≠ q) (hx : l[p]? = some x) (hy : l[q]? = some y) : DfA x y := by
  have hp := (List.getElem?_eq_some_iff.1 hx).1
  have hq := (List.getElem?_eq_some_iff.1 hy).1
  have hk := List.pairwise_iff_getElem.1 h.1
  have e1 := (List.getElem?_eq_some_iff.1 hx).2
  have e2 := (List.getElem?_eq_some_iff.1 hy).2
  rcases Nat.lt_or_ge p q with h1 | h1
  · have := hk p q hp hq h1
    rw [e1, e2] at this; exact this
  · have := hk q p hq hp (by omega)
    rw [e1, e2] at this; exact this.symm
theorem OkA.sm {l : List Al} (h : OkA l) {p : Nat} {x : Al} (hx : l[p]? = some x) : SmA x := h.2 x (List.mem_of_getElem? hx)
theorem RowA.drw {w w' : World} {g : Nat} {l : List Al} (h : RowA w g l) (hb : Below w.heap.size w w') {i : Nat} {s : Al} (hs : l[i]? = some s) : w'.cell? ⟨g, i * 3, none⟩ = some (.int .i64 s.1) ∧ w'.cell? ⟨g, i * 3 + 1, none⟩ = some (.int .i64 s.2.1) ∧ w'.cell? ⟨g, i * 3 + 2, none⟩ = some (.int .i64 s.2.2) := (h.on hb).at hs
theorem Fr.of_b {may : Nat → Prop} {w w' : World} (h : Below w.heap.size w w') : Fr may w w' := ⟨h.os, h.tape, h.output, h.size, fun i hi _ => h.block i hi⟩
set_option maxHeartbeats 8000000 in
set_option maxRecDepth 100000 in
theorem stCmp_any (x y : Al) (w : World) (hx : SmA x) (hy : SmA y) :
    Calls Tryz.prog 63 #[.agg #[.int .i64 x.1, .int .i64 x.2.1, .int .i64 x.2.2], .agg #[.int .i64 y.1, .int .i64 y.2.1, .int .i64 y.2.2]] w fun e w' => e = .returned (.int .i64 (cmpA x y)) ∧ Below w.heap.size w w' := by
  have HF := Lib.hid (fun o p => (show Below w.heap.size w ((w.alloc o).alloc p) from two_on o p))
  obtain ⟨x1, x2, x3⟩ := x
  obtain ⟨y1, y2, y3⟩ := y
  unfold SmA at hx hy
  simp only at hx hy
  have hw : IntKind.i64.wrap (x1 - y1) = x1 - y1 := IntWalk.i64_in _ (by omega)
  by_cases h1 : x2 < y2
  · have HV := Lib.hid (show cmpA (x1, x2, x3) (y1, y2, y3) = -1 by unfold cmpA; rw [if_pos h1])
    go_enter Tryz.func63, Tryz.ntmps63
    go_wp2
    go_ret
    exact ⟨by rw [HV.out]; rfl, HF.out _ _⟩
  · by_cases h2 : y2 < x2
    · have HV := Lib.hid (show cmpA (x1, x2, x3) (y1, y2, y3) = 1 by unfold cmpA; rw [if_neg h1, if_pos h2])
      go_enter Tryz.func63, Tryz.ntmps63
      go_wp2
      go_ret
      exact ⟨by rw [HV.out]; rfl, HF.out _ _⟩
    · have HV := Lib.hid (show cmpA (x1, x2, x3) (y1, y2, y3) = x1 - y1 by unfold cmpA; rw [if_neg h1, if_neg h2])
      go_enter Tryz.func63, Tryz.ntmps63
      go_wp2
      go_ret
      exact ⟨by rw [HV.out]; rfl, HF.out _ _⟩
end Go.Proofs.YtnpfdelklolchaaGreatDoor

/- An own row of alerts that is being made: append, the last one's end. -/
namespace Go.Proofs.YtnpfdelklolchaaGreatDoor
open Go Go.RowKit Go.Proofs

theorem infoAl : (Tryz.prog.info? 104).map (fun i => (i.zero, i.size, i.bytes)) = some (some (.agg #[.int .i64 0, .int .i64 0, .int .i64 0]), 3, 24) := by kernel_rfl
/-- the alerts made so far -/
def OwA (w : World) (base : Nat) (v : Value) (l : List Al) : Prop := w.ownsRow base 104 3 v l.length (al3 l)
section
variable {w w' : World} {base : Nat} {v : Value} {l : List Al}
theorem OwA.nil (w : World) (base : Nat) : OwA w base (.slice none 0 0) [] := ⟨rfl, .inl ⟨rfl, rfl⟩⟩
theorem OwA.on (h : OwA w base v l) (hb : Below w.heap.size w w') : OwA w' base v l :=
  ownsRow_fr h (Fr.of_b (may := fun _ => False) hb) (fun _ _ h => h)
theorem OwA.row (h : OwA w base v l) (hl : 0 < l.length) : ∃ g cap, v = .slice (some ⟨g, 0, none⟩) l.length cap ∧ base ≤ g ∧ l.length ≤ cap ∧ cap ≤ maxLen ∧ RowA w g l := by
  rcases h.2 with ⟨rfl, h0⟩ | ⟨g, cap, cur, hv, hb, hh, hnc, hcm, hsz, htk⟩
  · omega
  · exact ⟨g, cap, hv, hb, hnc, hcm, cur, hh, by omega, htk⟩
theorem OwA.shape (h : OwA w base v l) : ∃ A cap, v = .slice A l.length cap ∧ l.length ≤ cap ∧ cap ≤ maxLen ∧ (A = none → l.length = 0 ∧ cap = 0) := ownsRow_shape h
/-- the last one goes on to t -/
theorem OwA.setTo {g cap : Nat} {x : Al} (h : OwA w base (.slice (some ⟨g, 0, none⟩) l.length cap) l) (hx : l[l.length - 1]? = some x) (hl : 0 < l.length) (t : Int) :
    OwA (w.setCell ⟨g, (l.length - 1) * 3 + 2, none⟩ (.int .i64 t)) base (.slice (some ⟨g, 0, none⟩) l.length cap) (setTo l t) := by
  rcases h.2 with ⟨h0, _⟩ | ⟨g', cap', cur, hv, hb, hh, hnc, hcm, hsz, htk⟩
  · cases h0
  · simp only [Value.slice.injEq, Option.some.injEq, Addr.mk.injEq, and_true, true_and] at hv
    obtain ⟨rfl, rfl⟩ := hv
    have e1 : al3 (Go.Proofs.YtnpfdelklolchaaGreatDoor.setTo l t) = (al3 l).set ((l.length - 1) * 3 + 2) (.int .i64 t) := by
      rw [setTo_eq t hx, al3_set _ _ _ (by omega)]
      obtain ⟨g1, g2, g3⟩ := al3_get hx
      rw [show (al3 l).set ((l.length - 1) * 3) (.int .i64 x.1) = al3 l from ?_, show (al3 l).set ((l.length - 1) * 3 + 1) (.int .i64 x.2.1) = al3 l from ?_]
      · apply List.ext_getElem?
        intro k
        rw [List.getElem?_set]
        split
        · rename_i e; subst e
          rw [g2]
          split
          · rfl
          · rename_i hk; exact absurd (List.getElem?_eq_some_iff.1 g2).1 hk
        · rfl
      · apply List.ext_getElem?
        intro k
        rw [List.getElem?_set]
        split
        · rename_i e; subst e
          rw [g1]
          split
          · rfl
          · rename_i hk; exact absurd (List.getElem?_eq_some_iff.1 g1).1 hk
        · rfl
    unfold OwA
    rw [setTo_len]
    refine ⟨by rw [al3_length, setTo_len], .inr ⟨g, cap, cur.setIfInBounds ((l.length - 1) * 3 + 2) (.int .i64 t), rfl, hb, ?_, hnc, hcm, by simpa using hsz, ?_⟩⟩
    · simp [World.setCell, Array.getElem?_modify, hh]
    · rw [Array.toList_setIfInBounds, al_take, htk, e1]
theorem OwA.at (h : OwA w base v l) {g cap : Nat} (hv : v = .slice (some ⟨g, 0, none⟩) l.length cap) {i : Nat} {x : Al} (hx : l[i]? = some x) : w.cell? ⟨g, i * 3, none⟩ = some (.int .i64 x.1) ∧ w.cell? ⟨g, i * 3 + 1, none⟩ = some (.int .i64 x.2.1) ∧ w.cell? ⟨g, i * 3 + 2, none⟩ = some (.int .i64 x.2.2) := by
  obtain ⟨g', cap', hv', _, _, _, hr⟩ := h.row (by have := (List.getElem?_eq_some_iff.1 hx).1; omega)
  rw [hv] at hv'
  simp only [Value.slice.injEq, Option.some.injEq, Addr.mk.injEq, and_true, true_and] at hv'
  obtain ⟨rfl, rfl⟩ := hv'
  exact hr.at hx
theorem al3_snoc (l : List Al) (x : Al) : al3 (l ++ [x]) = al3 l ++ [.int .i64 x.1, .int .i64 x.2.1, .int .i64 x.2.2] := by rw [al3_append]; rfl
theorem OwA.snoc {x : Al} (h : w.ownsRow base 104 3 v (l.length + 1) (al3 l ++ [.int .i64 x.1, .int .i64 x.2.1, .int .i64 x.2.2])) : OwA w base v (l ++ [x]) := by
  unfold OwA
  rw [List.length_append, al3_snoc]
  exact h
end
end Go.Proofs.YtnpfdelklolchaaGreatDoor

/- Objectives: checkObjective of judge, objectiveFault of the reference. -/
namespace Go.Proofs.YtnpfdelklolchaaGreatDoor
open Go Go.RowKit Go.Proofs

def OkO (g o : Int) : Prop := 0 ≤ g ∧ g < o ∧ o ≤ 1000000
instance (g o : Int) : Decidable (OkO g o) := by unfold OkO; exact inferInstance
/-- the error's number -/
def cdO (g o : Int) : Int := if OkO g o then 0 else 9
set_option maxRecDepth 100000 in
theorem jObj_any (g o : Int) (w : World) : Calls Tryz.prog 55 #[.agg #[.int .i64 g, .int .i64 o]] w fun e w' => e = .returned (.int .i64 (cdO g o)) ∧ Below w.heap.size w w' := by
  have HF := Lib.hid (fun p => (show Below w.heap.size w (w.alloc p) from (Below.refl _ w).alloc (Nat.le_refl _) p))
  by_cases h1 : g < 0
  · have HV := Lib.hid (show cdO g o = 9 by unfold cdO; exact if_neg (by unfold OkO; omega))
    go_enter Tryz.func55, Tryz.ntmps55
    go_wp2
    go_ret
    exact ⟨by rw [HV.out]; rfl, HF.out _⟩
  · by_cases h2 : o ≤ g
    · have HV := Lib.hid (show cdO g o = 9 by unfold cdO; exact if_neg (by unfold OkO; omega))
      go_enter Tryz.func55, Tryz.ntmps55
      go_wp2
      go_ret
      exact ⟨by rw [HV.out]; rfl, HF.out _⟩
    · by_cases h3 : (1000000 : Int) < o
      · have HV := Lib.hid (show cdO g o = 9 by unfold cdO; exact if_neg (by unfold OkO; omega))
        go_enter Tryz.func55, Tryz.ntmps55
        go_wp2
        go_ret
        exact ⟨by rw [HV.out]; rfl, HF.out _⟩
      · have HV := Lib.hid (show cdO g o = 0 by unfold cdO; exact if_pos (by unfold OkO; omega))
        go_enter Tryz.func55, Tryz.ntmps55
        go_wp2
        go_ret
        exact ⟨by rw [HV.out]; rfl, HF.out _⟩
set_option maxRecDepth 100000 in
theorem rObj_any (g o : Int) (w : World) : Calls Tryz.prog 58 #[.agg #[.int .i64 g, .int .i64 o]] w fun e w' => e = .returned (.int .i64 (cdO g o)) ∧ Below w.heap.size w w' := by
  have HF := Lib.hid (fun p => (show Below w.heap.size w (w.alloc p) from (Below.refl _ w).alloc (Nat.le_refl _) p))
  by_cases h1 : g < 0
  · have HV := Lib.hid (show cdO g o = 9 by unfold cdO; exact if_neg (by unfold OkO; omega))
    go_enter Tryz.func58, Tryz.ntmps58
    go_wp2
    go_ret
    exact ⟨by rw [HV.out]; rfl, HF.out _⟩
  · by_cases h2 : o ≤ g
    · have HV := Lib.hid (show cdO g o = 9 by unfold cdO; exact if_neg (by unfold OkO; omega))
      go_enter Tryz.func58, Tryz.ntmps58
      go_wp2
      go_ret
      exact ⟨by rw [HV.out]; rfl, HF.out _⟩
    · by_cases h3 : (1000000 : Int) < o
      · have HV := Lib.hid (show cdO g o = 9 by unfold cdO; exact if_neg (by unfold OkO; omega))
        go_enter Tryz.func58, Tryz.ntmps58
        go_wp2
        go_ret
        exact ⟨by rw [HV.out]; rfl, HF.out _⟩
      · have HV := Lib.hid (show cdO g o = 0 by unfold cdO; exact if_pos (by unfold OkO; omega))
        go_enter Tryz.func58, Tryz.ntmps58
        go_wp2
        go_ret
        exact ⟨by rw [HV.out]; rfl, HF.out _⟩
end Go.Proofs.YtnpfdelklolchaaGreatDoor

/- Quotients of fractions: plain. -/
namespace Go.Proofs.YtnpfdelklolchaaGreatDoor
open Go

theorem inv_mk (s : Bool) {x y : Nat} (hx : 0 < x) (hy : 0 < y) : (mkRat (sg s x) y)⁻¹ = mkRat (sg s y) x := by
  have e : mkRat (sg s x) y * mkRat (sg s y) x = 1 := by
    rw [← tm_eq, show (s != s) = false by simp, Nat.mul_comm y x]
    have h0 : 0 < x * y := Nat.mul_pos hx hy
    show mkRat ((x * y : Nat) : Int) (x * y) = 1
    rw [Rat.mkRat_eq_div, Rat.div_def]
    refine Rat.mul_inv_cancel _ ?_
    intro hc
    have : x * y = 0 := by exact_mod_cast hc
    omega
  have hne : mkRat (sg s x) y ≠ 0 := by
    intro hc
    rw [hc, Rat.zero_mul] at e
    exact absurd e (by decide)
  have h1 := Rat.inv_mul_cancel _ hne
  have : (mkRat (sg s x) y)⁻¹ * (mkRat (sg s x) y * mkRat (sg s y) x) = mkRat (sg s y) x := by rw [← Rat.mul_assoc, h1, Rat.one_mul]
  rw [e, Rat.mul_one] at this
  exact this
theorem ov_eq (b1 : Bool) (x1 : Nat) {y1 : Nat} (b2 : Bool) {x2 y2 : Nat} (hx : 0 < x2) (hy : 0 < y2) : mkRat (sg (b1 != b2) (x1 * y2)) (y1 * x2) = mkRat (sg b1 x1) y1 / mkRat (sg b2 x2) y2 := by
  rw [Rat.div_def, inv_mk b2 hx hy, tm_eq]
end Go.Proofs.YtnpfdelklolchaaGreatDoor

/- Package judge: fractions in memory: times, over. Printed by gen_jarith.py. -/
namespace Go.Proofs.YtnpfdelklolchaaGreatDoor
open Go Go.RowKit Go.Proofs

set_option maxHeartbeats 8000000 in
set_option maxRecDepth 100000 in
theorem jOver_any (n : Nat) (u v : Value) (ba bb : Bool) (xa ya xb yb : Nat) (w : World) (hn : n ≤ 400000) (ha : JF w u ba xa ya) (hb : JF w v bb xb yb) (hx1 : xa < W64 ^ n) (hy1 : ya < W64 ^ n) (hx2 : xb < W64 ^ n) (hy2 : yb < W64 ^ n) :
    Calls Tryz.prog 57 #[u, v] w (JFPost (ba != bb) (xa * yb) (ya * xb) w) := by
  obtain ⟨A1, c1, l1, A2, c2, l2, rfl, ha1, ha2⟩ := ha
  obtain ⟨A3, c3, l3, A4, c4, l4, rfl, hb1, hb2⟩ := hb
  have la1 := ha1.len hx1
  have la2 := ha2.len hy1
  have lb1 := hb1.len hx2
  have lb2 := hb2.len hy2
  obtain ⟨W0, hW0⟩ : ∃ W0, W0 = ((w.alloc (.cells #[.bool ba, .slice A1 l1.length c1, .slice A2 l2.length c2] 73)).alloc (.cells #[.bool bb, .slice A3 l3.length c3, .slice A4 l4.length c4] 73)).alloc (.cells #[.bool false, .slice none 0 0, .slice none 0 0] 73) := ⟨_, rfl⟩
  have HST0 := Lib.hid (show St w W0 [(w.heap.size, .cells #[.bool ba, .slice A1 l1.length c1, .slice A2 l2.length c2] 73 (0, 0)), (w.heap.size + 1, .cells #[.bool bb, .slice A3 l3.length c3, .slice A4 l4.length c4] 73 (0, 0)), (w.heap.size + 1 + 1, .cells #[.bool false, .slice none 0 0, .slice none 0 0] 73 (0, 0))] by rw [hW0]; exact (((St.start w).alloc _ _ rfl).alloc _ _ (by simp)).alloc _ _ (by simp))
  have hs0 : W0.heap.size = w.heap.size + 3 := by rw [hW0]; simp
  have HX0 := Lib.hid (show JBox W0 (w.heap.size + 1 + 1) from HST0.out.at 2 rfl)
  have HA1 := Lib.hid (ha1.on HST0.out.below)
  have HA2 := Lib.hid (ha2.on HST0.out.below)
  have HA3 := Lib.hid (hb1.on HST0.out.below)
  have HA4 := Lib.hid (hb2.on HST0.out.below)
  have HM1 := Lib.hid (fun W (hb : Below W0.heap.size W0 W) => natMul_any A1 A4 c1 c4 l1 l4 _ _ W (HA1.out.on hb) (HA4.out.on hb) (by omega) (by omega))
  have HM2 := Lib.hid (fun W (hb : Below W0.heap.size W0 W) => natMul_any A2 A3 c2 c3 l2 l3 _ _ W (HA2.out.on hb) (HA3.out.on hb) (by omega) (by omega))
  obtain ⟨X, hX⟩ : ∃ X, X = xa * yb := ⟨_, rfl⟩
  obtain ⟨Y, hY⟩ : ∃ Y, Y = ya * xb := ⟨_, rfl⟩
  rw [← hX] at HM1 ⊢
  rw [← hY] at HM2 ⊢
  clear ha1 ha2 hb1 hb2 hx1 hx2 hy1 hy2 hX hY
  have HKS := Lib.hid (show ∀ X, Below W0.heap.size W0 X → (fun X => Below W0.heap.size W0 X ∧ X.cell? ⟨w.heap.size, 0, none⟩ = some (.bool ba) ∧ X.cell? ⟨w.heap.size, 1, none⟩ = some (.slice A1 l1.length c1) ∧ X.cell? ⟨w.heap.size, 2, none⟩ = some (.slice A2 l2.length c2) ∧ X.cell? ⟨w.heap.size + 1, 0, none⟩ = some (.bool bb) ∧ X.cell? ⟨w.heap.size + 1, 1, none⟩ = some (.slice A3 l3.length c3) ∧ X.cell? ⟨w.heap.size + 1, 2, none⟩ = some (.slice A4 l4.length c4)) X from fun X hX => ⟨hX, (HST0.out.call hX).cell 0 0 rfl rfl, (HST0.out.call hX).cell 0 1 rfl rfl, (HST0.out.call hX).cell 0 2 rfl rfl, (HST0.out.call hX).cell 1 0 rfl rfl, (HST0.out.call hX).cell 1 1 rfl rfl, (HST0.out.call hX).cell 1 2 rfl rfl⟩)
  go_enter Tryz.func57, Tryz.ntmps57
  go_wp2_with fail
  rw [← hW0]
  clear hW0
  refine wp_region_last (init := #[_, _, _, _, _, _, _, _, _, _, _, _, _, _, _, _]) (last := _) rfl (by kernel_rfl) (by kernel_rfl) (by kernel_rfl) ?_
  show wpAny _ _ _ _ 16 (Array.replicate 16 false) _ _
  refine wpAny_of_held (S := (fun X => Below W0.heap.size W0 X ∧ X.cell? ⟨w.heap.size, 0, none⟩ = some (.bool ba) ∧ X.cell? ⟨w.heap.size, 1, none⟩ = some (.slice A1 l1.length c1) ∧ X.cell? ⟨w.heap.size, 2, none⟩ = some (.slice A2 l2.length c2) ∧ X.cell? ⟨w.heap.size + 1, 0, none⟩ = some (.bool bb) ∧ X.cell? ⟨w.heap.size + 1, 1, none⟩ = some (.slice A3 l3.length c3) ∧ X.cell? ⟨w.heap.size + 1, 2, none⟩ = some (.slice A4 l4.length c4))) _ _ _ _ ?_
  have HS0 := HKS.out _ (Below.refl _ W0).drew
  refine wpAnyH_take (i := 0) (v := ?_) rfl (by kernel_rfl) (by kernel_rfl) (by kernel_rfl) (fun _ _ _ h => h) (Or.inl ⟨by rfl, ?_⟩) HS0 ?_
  rotate_left
  · intro W hW; (try dsimp only at hW); go_simp; try (with_reducible rfl)
  (try simp only [List.getElem_toArray, List.getElem_cons_succ, List.getElem_cons_zero, Act.put, List.setIfInBounds_toArray, List.set_cons_zero, List.set_cons_succ])
  refine wpAnyH_take (i := 1) (v := ?_) rfl (by kernel_rfl) (by kernel_rfl) (by kernel_rfl) (fun _ _ _ h => h) (Or.inl ⟨by rfl, ?_⟩) HS0 ?_
  rotate_left
  · intro W hW; (try dsimp only at hW); go_simp; try (with_reducible rfl)
  (try simp only [List.getElem_toArray, List.getElem_cons_succ, List.getElem_cons_zero, Act.put, List.setIfInBounds_toArray, List.set_cons_zero, List.set_cons_succ])
  refine wpAnyH_take (i := 2) (v := ?_) rfl (by kernel_rfl) (by kernel_rfl) (by kernel_rfl) (fun _ _ _ h => h) (Or.inl ⟨by rfl, ?_⟩) HS0 ?_
  rotate_left
  · intro W hW; (try dsimp only at hW); go_simp; try (with_reducible rfl)
  (try simp only [List.getElem_toArray, List.getElem_cons_succ, List.getElem_cons_zero, Act.put, List.setIfInBounds_toArray, List.set_cons_zero, List.set_cons_succ])
  refine wpAnyH_take (i := 3) (v := ?_) rfl (by kernel_rfl) (by kernel_rfl) (by kernel_rfl) (fun _ _ _ h => h) (Or.inl ⟨by rfl, ?_⟩) HS0 ?_
  rotate_left
  · intro W hW; (try dsimp only at hW); go_simp; try (with_reducible rfl)
  (try simp only [List.getElem_toArray, List.getElem_cons_succ, List.getElem_cons_zero, Act.put, List.setIfInBounds_toArray, List.set_cons_zero, List.set_cons_succ])
  refine wpAnyH_take (i := 4) (v := ?_) rfl (by kernel_rfl) (by kernel_rfl) (by kernel_rfl) (fun _ _ _ h => h) (Or.inl ⟨by rfl, ?_⟩) HS0 ?_
  rotate_left
  · intro W hW; (try dsimp only at hW); go_simp; try (with_reducible rfl)
  (try simp only [List.getElem_toArray, List.getElem_cons_succ, List.getElem_cons_zero, Act.put, List.setIfInBounds_toArray, List.set_cons_zero, List.set_cons_succ])
  refine wpAnyH_take (i := 5) (v := ?_) rfl (by kernel_rfl) (by kernel_rfl) (by kernel_rfl) (fun _ _ _ h => h) (Or.inl ⟨by rfl, ?_⟩) HS0 ?_
  rotate_left
  · intro W hW; (try dsimp only at hW); go_simp; try (with_reducible rfl)
  (try simp only [List.getElem_toArray, List.getElem_cons_succ, List.getElem_cons_zero, Act.put, List.setIfInBounds_toArray, List.set_cons_zero, List.set_cons_succ])
  refine wpAnyH_take (i := 6) (v := ?_) rfl (by kernel_rfl) (by kernel_rfl) (by kernel_rfl) (fun _ _ _ h => h) (Or.inl ⟨by rfl, ?_⟩) HS0 ?_
  rotate_left
  · intro W hW; (try dsimp only at hW); go_simp; try (with_reducible rfl)
  (try simp only [List.getElem_toArray, List.getElem_cons_succ, List.getElem_cons_zero, Act.put, List.setIfInBounds_toArray, List.set_cons_zero, List.set_cons_succ])
  refine wpAnyH_take (i := 7) (v := ?_) rfl (by kernel_rfl) (by kernel_rfl) (by kernel_rfl) (fun _ _ _ h => h) (Or.inl ⟨by rfl, ?_⟩) HS0 ?_
  rotate_left
  · intro W hW; (try dsimp only at hW); go_simp; try (with_reducible rfl)
  (try simp only [List.getElem_toArray, List.getElem_cons_succ, List.getElem_cons_zero, Act.put, List.setIfInBounds_toArray, List.set_cons_zero, List.set_cons_succ])
  refine wpAnyH_take (i := 8) (v := ?_) rfl (by kernel_rfl) (by kernel_rfl) (by kernel_rfl) (fun _ _ _ h => h) (Or.inl ⟨by rfl, ?_⟩) HS0 ?_
  rotate_left
  · intro W hW; (try dsimp only at hW); go_simp; try (with_reducible rfl)
  (try simp only [List.getElem_toArray, List.getElem_cons_succ, List.getElem_cons_zero, Act.put, List.setIfInBounds_toArray, List.set_cons_zero, List.set_cons_succ])
  refine wpAnyH_take (i := 10) (v := ?_) rfl (by kernel_rfl) (by kernel_rfl) (by kernel_rfl) (fun _ _ _ h => h) (Or.inl ⟨by rfl, ?_⟩) HS0 ?_
  rotate_left
  · intro W hW; (try dsimp only at hW); go_simp; try (with_reducible rfl)
  (try simp only [List.getElem_toArray, List.getElem_cons_succ, List.getElem_cons_zero, Act.put, List.setIfInBounds_toArray, List.set_cons_zero, List.set_cons_succ])
  refine wpAnyH_take (i := 11) (v := ?_) rfl (by kernel_rfl) (by kernel_rfl) (by kernel_rfl) (fun _ _ _ h => h) (Or.inl ⟨by rfl, ?_⟩) HS0 ?_
  rotate_left
  · intro W hW; (try dsimp only at hW); go_simp; try (with_reducible rfl)
  (try simp only [List.getElem_toArray, List.getElem_cons_succ, List.getElem_cons_zero, Act.put, List.setIfInBounds_toArray, List.set_cons_zero, List.set_cons_succ])
  refine wpAnyH_take (i := 12) (v := ?_) rfl (by kernel_rfl) (by kernel_rfl) (by kernel_rfl) (fun _ _ _ h => h) (Or.inl ⟨by rfl, ?_⟩) HS0 ?_
  rotate_left
  · intro W hW; (try dsimp only at hW); go_simp; try (with_reducible rfl)
  (try simp only [List.getElem_toArray, List.getElem_cons_succ, List.getElem_cons_zero, Act.put, List.setIfInBounds_toArray, List.set_cons_zero, List.set_cons_succ])
  refine wpAnyH_take (i := 13) (v := ?_) rfl (by kernel_rfl) (by kernel_rfl) (by kernel_rfl) (fun _ _ _ h => h) (Or.inl ⟨by rfl, ?_⟩) HS0 ?_
  rotate_left
  · intro W hW; (try dsimp only at hW); go_simp; try (with_reducible rfl)
  (try simp only [List.getElem_toArray, List.getElem_cons_succ, List.getElem_cons_zero, Act.put, List.setIfInBounds_toArray, List.set_cons_zero, List.set_cons_succ])
  refine run_one (i := 9) (by kernel_rfl) rfl rfl ?_
  intro K hK
  go_simp
  refine (HM1.out _ HS0.1).mono ?_
  rintro e w8 ⟨A8, c8, l8, rfl, hn8, hb8⟩
  refine hK.out _ _ (HKS.out _ (below_next HS0.1 hb8)) ?_
  clear hK K
  have HSP := HS0
  clear HS0
  intro HS0
  refine run_one (i := 14) (by kernel_rfl) rfl rfl ?_
  intro K hK
  go_simp
  refine (HM2.out _ HS0.1).mono ?_
  rintro e w9 ⟨A9, c9, l9, rfl, hn9, hb9⟩
  refine hK.out _ _ (HKS.out _ (below_next HS0.1 hb9)) ?_
  clear hK K
  have HSP := HS0
  clear HS0
  intro HS0
  refine wpAnyH_take (i := 15) (v := ?_) rfl (by kernel_rfl) (by kernel_rfl) (by kernel_rfl) (fun _ _ _ h => h) (Or.inl ⟨by rfl, ?_⟩) HS0 ?_
  rotate_left
  · intro W hW; (try dsimp only at hW); go_simp; try (with_reducible rfl)
  (try simp only [List.getElem_toArray, List.getElem_cons_succ, List.getElem_cons_zero, Act.put, List.setIfInBounds_toArray, List.set_cons_zero, List.set_cons_succ])
  refine wpAnyH_done (by kernel_rfl) ?_ _
  simp only [LastQ]
  have HF := Lib.hid (fun W (hf : Fr (fun i => i = w.heap.size + 1 + 1) w9 W) => jf_ret (HX0.out.on HS0.1) (jf_mk (b := !(ba == bb)) (hn8.on hb9) hn9) (below_next HST0.out.below HS0.1) (by omega) hf)
  obtain ⟨k0, k1, k2, z0, z1, z2, hlt⟩ := (HX0.out.on HS0.1).facts
  clear HS0 HSP hb8 hb9 hn8 hn9
  go_simp
  go_wp2
  refine bodyPost_ret (v := .agg #[.bool (!(ba == bb)), .slice A8 l8.length c8, .slice A9 l9.length c9]) (by simp [results, Tryz.results57, go_sem, k0, k1, k2]) rfl ⟨_, rfl, HF.out _ (fr3 _ _ _)⟩

end Go.Proofs.YtnpfdelklolchaaGreatDoor

/- Package judge: fractions as rational numbers: plus, opposite, times, over, lowest, compare, ratio. -/
namespace Go.Proofs.YtnpfdelklolchaaGreatDoor
open Go Go.RowKit Go.Proofs

/-- a value that is a fraction with the value q, its parts below W64^n -/
def JQ (w : World) (v : Value) (q : Rat) (n : Nat) : Prop := ∃ b x y, JF w v b x y ∧ mkRat (sg b x) y = q ∧ x < W64 ^ n ∧ y < W64 ^ n ∧ 0 < y
theorem JQ.on {w w' : World} {v : Value} {q : Rat} {n : Nat} (h : JQ w v q n) (hb : Below w.heap.size w w') : JQ w' v q n := by
  obtain ⟨b, x, y, h1, h2⟩ := h
  exact ⟨b, x, y, h1.on hb, h2⟩
theorem W64_mono {x n m : Nat} (h : x < W64 ^ n) (hm : n ≤ m) : x < W64 ^ m := Nat.lt_of_lt_of_le h (Nat.pow_le_pow_right (by unfold W64; omega) hm)
theorem JQ.mono {w : World} {v : Value} {q : Rat} {n m : Nat} (h : JQ w v q n) (hm : n ≤ m) : JQ w v q m := by
  obtain ⟨b, x, y, h1, h2, h3, h4, h5⟩ := h
  exact ⟨b, x, y, h1, h2, W64_mono h3 hm, W64_mono h4 hm, h5⟩
theorem JQ.shape {w : World} {v : Value} {q : Rat} {n : Nat} (h : JQ w v q n) : ∃ b A1 c1 l1 A2 c2 l2, v = .agg #[.bool b, .slice A1 (l1 : List Nat).length c1, .slice A2 (l2 : List Nat).length c2] := by
  obtain ⟨b, x, y, ⟨A1, c1, l1, A2, c2, l2, h1, _⟩, _⟩ := h
  exact ⟨b, A1, c1, l1, A2, c2, l2, h1⟩
theorem JQ.of {w : World} {v : Value} {q : Rat} {n : Nat} (h : JF w v (frS q) (frN q) q.den) (h1 : frN q < W64 ^ n) (h2 : q.den < W64 ^ n) : JQ w v q n := ⟨_, _, _, h, fr_eq q, h1, h2, q.den_pos⟩
def JQPost (q : Rat) (n : Nat) (w : World) (e : Ending) (w' : World) : Prop := ∃ v, e = .returned v ∧ JQ w' v q n ∧ Below w.heap.size w w'
theorem W64_mul {a b s t : Nat} (h1 : a < W64 ^ s) (h2 : b < W64 ^ t) : a * b < W64 ^ (s + t) := by rw [Nat.pow_add]; exact Nat.mul_lt_mul'' h1 h2
theorem jOverQ (n m : Nat) (u v : Value) (p q : Rat) (w : World) (hn : n ≤ 200000) (hm : m ≤ 200000) (hu : JQ w u p n) (hv : JQ w v q m) (hq : q ≠ 0) : Calls Tryz.prog 57 #[u, v] w (JQPost (p / q) (n + m) w) := by
  obtain ⟨b1, x1, y1, h1, e1, g1, k1, p1⟩ := hu
  obtain ⟨b2, x2, y2, h2, e2, g2, k2, p2⟩ := hv
  have hx2 : 0 < x2 := by
    rcases Nat.eq_zero_or_pos x2 with h0 | h0
    · subst h0
      rw [low_zero] at e2
      exact absurd e2.symm hq
    · exact h0
  refine (jOver_any (n + m) u v b1 b2 x1 y1 x2 y2 w (by omega) h1 h2 (W64_mono g1 (by omega)) (W64_mono k1 (by omega)) (W64_mono g2 (by omega)) (W64_mono k2 (by omega))).mono fun e w' ⟨z, he, hz, hb⟩ => ⟨z, he, ⟨_, _, _, hz, ?_, W64_mul g1 k2, W64_mul k1 g2, Nat.mul_pos p1 hx2⟩, hb⟩
  rw [ov_eq _ _ _ hx2 p2, e1, e2]
theorem jRatioQ (n : Nat) (u : Value) (p : Rat) (w : World) (hn : n ≤ 1000) (hu : JQ w u p n) (htab : Tab w.heap.size w) : Calls Tryz.prog 34 #[u] w fun e w' => e = .returned (.tuple #[ratOf (rtT p), .int .i64 (rtC p)]) ∧ Below w.heap.size w w' := by
  obtain ⟨b1, x1, y1, h1, e1, g1, k1, p1⟩ := hu
  have := jRatio_any u b1 x1 y1 n w h1 g1 k1 hn p1 htab
  rw [e1] at this
  exact this
theorem jWholeQ (k : Int) (w : World) (h0 : -9223372036854775807 ≤ k) (h1 : k ≤ 9223372036854775807) : Calls Tryz.prog 56 #[.int .i64 k] w (JQPost (k : Rat) 1 w) := by
  refine (jWhole_any k w h0 h1).mono fun e w' ⟨z, he, hz, hb⟩ => ⟨z, he, ⟨_, _, _, hz, ?_, W64_gt _ (by omega), W64_gt _ (by omega), by omega⟩, hb⟩
  rw [sg_self]
  exact Rat.mkRat_self (k : Rat)

/-- box B holds a fraction with the value p -/
def JVQ (w : World) (B : Nat) (p : Rat) (n : Nat) : Prop := ∃ b A1 c1 l1 A2 c2 l2, w.heap[B]? = some (.cells #[.bool b, .slice A1 (l1 : List Nat).length c1, .slice A2 (l2 : List Nat).length c2] 73 (0, 0)) ∧ JQ w (.agg #[.bool b, .slice A1 l1.length c1, .slice A2 l2.length c2]) p n
theorem JVQ.on {w w' : World} {B : Nat} {p : Rat} {n : Nat} (h : JVQ w B p n) (hb : Below w.heap.size w w') : JVQ w' B p n := by
  obtain ⟨b, A1, c1, l1, A2, c2, l2, e, h1⟩ := h
  exact ⟨b, A1, c1, l1, A2, c2, l2, (hb.block B (heap_lt e)).trans e, h1.on hb⟩
theorem JVQ.lt {w : World} {B : Nat} {p : Rat} {n : Nat} (h : JVQ w B p n) : B < w.heap.size := by
  obtain ⟨b, A1, c1, l1, A2, c2, l2, e, h1⟩ := h
  exact heap_lt e
/-- what lies in such a box, as a value -/
theorem JVQ.get {w : World} {B : Nat} {p : Rat} {n : Nat} (h : JVQ w B p n) : ∃ b A1 c1 l1 A2 c2 l2, (∀ W, Below w.heap.size w W → W.cell? ⟨B, 0, none⟩ = some (.bool b) ∧ W.cell? ⟨B, 1, none⟩ = some (.slice A1 (l1 : List Nat).length c1) ∧ W.cell? ⟨B, 2, none⟩ = some (.slice A2 (l2 : List Nat).length c2) ∧ W.frozen? ⟨B, 0, none⟩ = false ∧ W.frozen? ⟨B, 1, none⟩ = false ∧ W.frozen? ⟨B, 2, none⟩ = false ∧ B < W.heap.size) ∧ JQ w (.agg #[.bool b, .slice A1 l1.length c1, .slice A2 l2.length c2]) p n := by
  obtain ⟨b, A1, c1, l1, A2, c2, l2, e, h1⟩ := h
  refine ⟨b, A1, c1, l1, A2, c2, l2, fun W hW => ?_, h1⟩
  have e' := (hW.block B (heap_lt e)).trans e
  exact ⟨by rw [cellsAt e']; rfl, by rw [cellsAt e']; rfl, by rw [cellsAt e']; rfl, frozenAt e' 0, frozenAt e' 1, frozenAt e' 2, heap_lt e'⟩
/-- a value laid in a box of its own -/
theorem JVQ.laid {w : World} {b : Bool} {A1 A2 : Option Addr} {c1 c2 : Nat} {l1 l2 : List Nat} {p : Rat} {n : Nat} (h : JQ w (.agg #[.bool b, .slice A1 l1.length c1, .slice A2 l2.length c2]) p n) : JVQ (w.alloc (.cells #[.bool b, .slice A1 l1.length c1, .slice A2 l2.length c2] 73)) w.heap.size p n :=
  ⟨b, A1, c1, l1, A2, c2, l2, alloc_at _ _ _ rfl, h.on ((Below.refl _ w).alloc (Nat.le_refl _) _)⟩
/-- a value stored into a box -/
theorem JVQ.set {w : World} {B : Nat} {b b0 : Bool} {A1 A2 : Option Addr} {c1 c2 : Nat} {l1 l2 : List Nat} {B1 B2 : Option Addr} {d1 d2 e1 e2 : Nat} {p : Rat} {n : Nat} (hX : w.heap[B]? = some (.cells #[.bool b0, .slice B1 d1 e1, .slice B2 d2 e2] 73 (0, 0))) (h : JQ w (.agg #[.bool b, .slice A1 l1.length c1, .slice A2 l2.length c2]) p n) :
    JVQ (((w.setCell ⟨B, 0, none⟩ (.bool b)).setCell ⟨B, 1, none⟩ (.slice A1 l1.length c1)).setCell ⟨B, 2, none⟩ (.slice A2 l2.length c2)) B p n := by
  obtain ⟨s, x, y, ⟨A3, c3, l3, A4, c4, l4, e, h1, h2⟩, h3⟩ := h
  simp only [Value.agg.injEq, Array.mk.injEq, List.cons.injEq, Value.bool.injEq, Value.slice.injEq, and_true] at e
  obtain ⟨rfl, ⟨rfl, g1, rfl⟩, ⟨rfl, g2, rfl⟩⟩ := e
  rw [g1, g2]
  obtain ⟨A5, c5, l5, A6, c6, l6, e5, h5, h6⟩ := jvar_set (b := b) hX (fun z => ⟨by simp, by simp, by simp⟩) h1 h2
  exact ⟨b, A5, c5, l5, A6, c6, l6, e5, b, x, y, ⟨A5, c5, l5, A6, c6, l6, rfl, h5, h6⟩, h3⟩
end Go.Proofs.YtnpfdelklolchaaGreatDoor

/- A pair of texts in a box. -/
namespace Go.Proofs.YtnpfdelklolchaaGreatDoor
open Go Go.RowKit Go.Proofs

def Txt2 (W : World) (B : Nat) (S1 S2 : ByteArray) : Prop := W.heap[B]? = some (.cells #[.string S1, .string S2] 24 (0, 0))
theorem Txt2.on {w w' : World} {B : Nat} {S1 S2 : ByteArray} (h : Txt2 w B S1 S2) (hb : Below w.heap.size w w') : Txt2 w' B S1 S2 := (hb.block B (heap_lt h)).trans h
theorem Txt2.facts {w : World} {B : Nat} {S1 S2 : ByteArray} (h : Txt2 w B S1 S2) : w.cell? ⟨B, 0, none⟩ = some (.string S1) ∧ w.cell? ⟨B, 1, none⟩ = some (.string S2) ∧ w.frozen? ⟨B, 0, none⟩ = false ∧ w.frozen? ⟨B, 1, none⟩ = false ∧ B < w.heap.size :=
  ⟨by rw [cellsAt h]; rfl, by rw [cellsAt h]; rfl, frozenAt h 0, frozenAt h 1, heap_lt h⟩
theorem txt2_set {W : World} {B : Nat} {a b x y : Value} {t : TypeId} (h : W.heap[B]? = some (.cells #[a, b] t (0, 0))) : ((W.setCell ⟨B, 0, none⟩ x).setCell ⟨B, 1, none⟩ y).heap[B]? = some (.cells #[x, y] t (0, 0)) := by
  simp [World.setCell, Array.getElem?_modify, h]
theorem txt2_far {W : World} {B B' : Nat} {x y : Value} (h : B' ≠ B) : ((W.setCell ⟨B, 0, none⟩ x).setCell ⟨B, 1, none⟩ y).heap[B']? = W.heap[B']? :=
  (Below.heap_setCell (W.setCell ⟨B, 0, none⟩ x) ⟨B, 1, none⟩ y B' h).trans (Below.heap_setCell W ⟨B, 0, none⟩ x B' h)
theorem txt2_below {w W : World} {B : Nat} (h : Below w.heap.size w W) (hB : w.heap.size ≤ B) (x y : Value) : Below w.heap.size w ((W.setCell ⟨B, 0, none⟩ x).setCell ⟨B, 1, none⟩ y) := (h.setCell (p := ⟨B, 0, none⟩) hB x).setCell (p := ⟨B, 1, none⟩) hB y
end Go.Proofs.YtnpfdelklolchaaGreatDoor
