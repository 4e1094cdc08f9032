import Derived.Test.YtnapdhfkgfjjfaaGreatDoorG30
import Derived.Test.YtnapdhfkgfjjfaaGreatDoorG31
import Derived.Test.YtnapdhfkgfjjfaaGreatDoorG32
import Derived.Test.YtnapdhfkgfjjfaaGreatDoorG17
import Derived.Test.YtnapdhfkgfjjfaaGreatDoorG22
import Derived.Test.YtnapdhfkgfjjfaaGreatDoorG1
/- Package dynamometerref10: result, sum, half. -/
namespace Go.Proofs.YtnapdhfkgfjjfaaGreatDoor
open Go Go.RowKit Go.Proofs

theorem cmp_le (x y : Nat) : decide (cmpN x y ≤ 0) = decide (x ≤ y) := by
  unfold cmpN
  rw [decide_eq_decide]
  split
  · constructor
    · intro _; omega
    · intro _; decide
  · split
    · constructor
      · intro _; omega
      · intro _; decide
    · constructor
      · intro h; exact absurd h (by decide)
      · intro h; omega
end Go.Proofs.YtnapdhfkgfjjfaaGreatDoor

/- Package judge: positive, share, between. -/
namespace Go.Proofs.YtnapdhfkgfjjfaaGreatDoor
open Go Go.RowKit Go.Proofs

/-- what a range's test says of sign, numerator, denominator -/
def inJ : Rg → Bool → Nat → Nat → Bool
  | .share, b, x, y => !b && decide (x ≤ y)
  | .between, b, x, y => !b && decide (0 < x) && decide (x < y)
  | .positive, b, x, _ => !b && decide (0 < x)
theorem inJ_eq (k : Rg) (q : Rat) : inJ k (frS q) (frN q) q.den = inQ k q := by cases k <;> rfl
theorem natr_zero {w : World} {A : Option Addr} {c : Nat} {l : List Nat} {x : Nat} (h : NatR w A c l x) : ((l.length : Int) == 0) = decide (x = 0) := by
  rw [Bool.eq_iff_iff]; simp only [beq_iff_eq, decide_eq_true_eq]
  constructor
  · intro hz
    have : l = [] := List.eq_nil_of_length_eq_zero (by omega)
    subst this
    have := h.val; simpa [val] using this.symm
  · intro hz
    rw [(val_zero W64_pos h.norm).1 (by rw [h.val, hz])]; rfl
theorem cmp_lt (x y : Nat) : decide (cmpN x y < 0) = decide (x < y) := by
  unfold cmpN
  rw [decide_eq_decide]
  split
  · constructor
    · intro _; omega
    · intro _; decide
  · split
    · constructor
      · intro h; exact absurd h (by decide)
      · intro h; omega
    · constructor
      · intro h; exact absurd h (by decide)
      · intro h; omega
set_option maxHeartbeats 8000000 in
set_option maxRecDepth 100000 in
theorem jPositive_any (u : Value) (b : Bool) (x y n : Nat) (w : World) (h : JF w u b x y) (hx : x < W64 ^ n) (hn : n ≤ 900000) :
    Calls Tryz.prog 76 #[u] w fun e w' => e = .returned (.bool (inJ .positive b x y)) ∧ Below w.heap.size w w' := by
  obtain ⟨A1, c1, l1, A2, c2, l2, rfl, h1, h2⟩ := h
  have hl1 := h1.len hx
  obtain ⟨W0, hW0⟩ : ∃ W0, W0 = w.alloc (.cells #[.bool b, .slice A1 l1.length c1, .slice A2 l2.length c2] 69) := ⟨_, rfl⟩
  have HST0 := Lib.hid (show St w W0 [(w.heap.size, .cells #[.bool b, .slice A1 l1.length c1, .slice A2 l2.length c2] 69 (0, 0))] by rw [hW0]; exact (St.start w).alloc _ _ rfl)
  have HZ := Lib.hid (fun W => natZero_any A1 c1 l1 W (by omega))
  rw [natr_zero h1] at HZ
  obtain ⟨zb, hzb⟩ : ∃ zb, zb = decide (x = 0) := ⟨_, rfl⟩
  rw [← hzb] at HZ
  have HV := Lib.hid (show inJ .positive b x y = (!b && !zb) by
    unfold inJ; rw [hzb]; congr 1
    rw [Bool.eq_iff_iff]; simp; omega)
  rw [HV.out]
  have g0 := HST0.out.cell 0 0 rfl rfl
  have g1 := HST0.out.cell 0 1 rfl rfl
  clear h1 h2 hx hzb HV
  cases b with
  | true =>
    go_enter Tryz.func76, Tryz.ntmps76
    go_wp2_with fail
    rw [← hW0]
    clear hW0
    go_wp2
    go_ret
    exact ⟨by rfl, HST0.out.below⟩
  | false =>
    go_enter Tryz.func76, Tryz.ntmps76
    go_wp2_with fail
    rw [← hW0]
    clear hW0
    go_wp2_with fail
    (with_reducible refine (HZ.out _).mono ?_)
    rintro e w1 ⟨rfl, rfl⟩
    go_wp2
    go_ret
    exact ⟨by rfl, HST0.out.below⟩
set_option maxHeartbeats 8000000 in
set_option maxRecDepth 100000 in
theorem jShare_any (u : Value) (b : Bool) (x y n : Nat) (w : World) (h : JF w u b x y) (hx : x < W64 ^ n) (hy : y < W64 ^ n) (hn : n ≤ 900000) :
    Calls Tryz.prog 68 #[u] w fun e w' => e = .returned (.bool (inJ .share b x y)) ∧ Below w.heap.size w w' := by
  obtain ⟨A1, c1, l1, A2, c2, l2, rfl, h1, h2⟩ := h
  have hl1 := h1.len hx
  have hl2 := h2.len hy
  obtain ⟨W0, hW0⟩ : ∃ W0, W0 = w.alloc (.cells #[.bool b, .slice A1 l1.length c1, .slice A2 l2.length c2] 69) := ⟨_, rfl⟩
  have HST0 := Lib.hid (show St w W0 [(w.heap.size, .cells #[.bool b, .slice A1 l1.length c1, .slice A2 l2.length c2] 69 (0, 0))] by rw [hW0]; exact (St.start w).alloc _ _ rfl)
  have HC := Lib.hid (natCmp_any A1 A2 c1 c2 l1 l2 x y W0 (h1.on HST0.out.below) (h2.on HST0.out.below) (by omega) (by omega))
  obtain ⟨cv, hcv⟩ : ∃ cv, cv = cmpN x y := ⟨_, rfl⟩
  rw [← hcv] at HC
  obtain ⟨zb, hzb⟩ : ∃ zb, zb = decide (x ≤ y) := ⟨_, rfl⟩
  have tc : decide (cv ≤ 0) = zb := by rw [hcv, hzb, cmp_le]
  have HV := Lib.hid (show inJ .share b x y = (!b && zb) by unfold inJ; rw [hzb])
  rw [HV.out]
  have g0 := HST0.out.cell 0 0 rfl rfl
  have g1 := HST0.out.cell 0 1 rfl rfl
  have g2 := HST0.out.cell 0 2 rfl rfl
  clear h1 h2 hx hy hzb HV hcv
  cases b with
  | true =>
    go_enter Tryz.func68, Tryz.ntmps68
    go_wp2_with fail
    rw [← hW0]
    clear hW0
    go_wp2
    go_ret
    exact ⟨by rfl, HST0.out.below⟩
  | false =>
    go_enter Tryz.func68, Tryz.ntmps68
    go_wp2_with fail
    rw [← hW0]
    clear hW0
    go_wp2_with fail
    (with_reducible refine (HC.out).mono ?_)
    rintro e w1 ⟨rfl, q, rfl⟩
    go_wp2
    go_ret
    exact ⟨by rfl, below_drewN HST0.out.below q⟩
set_option maxHeartbeats 8000000 in
set_option maxRecDepth 100000 in
theorem jBetween_any (u : Value) (b : Bool) (x y n : Nat) (w : World) (h : JF w u b x y) (hx : x < W64 ^ n) (hy : y < W64 ^ n) (hn : n ≤ 900000) :
    Calls Tryz.prog 44 #[u] w fun e w' => e = .returned (.bool (inJ .between b x y)) ∧ Below w.heap.size w w' := by
  have HP := Lib.hid (fun W (hb : Below w.heap.size w W) => jPositive_any u b x y n W (h.on hb) hx hn)
  obtain ⟨A1, c1, l1, A2, c2, l2, rfl, h1, h2⟩ := h
  have hl1 := h1.len hx
  have hl2 := h2.len hy
  obtain ⟨W0, hW0⟩ : ∃ W0, W0 = w.alloc (.cells #[.bool b, .slice A1 l1.length c1, .slice A2 l2.length c2] 69) := ⟨_, rfl⟩
  have HST0 := Lib.hid (show St w W0 [(w.heap.size, .cells #[.bool b, .slice A1 l1.length c1, .slice A2 l2.length c2] 69 (0, 0))] by rw [hW0]; exact (St.start w).alloc _ _ rfl)
  have HC := Lib.hid (fun W (hb : Below w.heap.size w W) => natCmp_any A1 A2 c1 c2 l1 l2 x y W (h1.on hb) (h2.on hb) (by omega) (by omega))
  obtain ⟨cv, hcv⟩ : ∃ cv, cv = cmpN x y := ⟨_, rfl⟩
  rw [← hcv] at HC
  obtain ⟨zb, hzb⟩ : ∃ zb, zb = decide (x < y) := ⟨_, rfl⟩
  have tc : decide (cv < 0) = zb := by rw [hcv, hzb, cmp_lt]
  obtain ⟨pb, hpb⟩ : ∃ pb, pb = inJ .positive b x y := ⟨_, rfl⟩
  have HV := Lib.hid (show inJ .between b x y = (pb && zb) by rw [hpb]; unfold inJ; rw [hzb])
  rw [← hpb] at HP
  rw [HV.out]
  have g0 := HST0.out.cell 0 0 rfl rfl
  have g1 := HST0.out.cell 0 1 rfl rfl
  have g2 := HST0.out.cell 0 2 rfl rfl
  clear h1 h2 hx hy hzb HV hcv hpb
  cases pb with
  | false =>
    go_enter Tryz.func44, Tryz.ntmps44
    go_wp2_with fail
    rw [← hW0]
    clear hW0
    go_wp2_with fail
    (with_reducible refine (HP.out _ HST0.out.below).mono ?_)
    rintro e w1 ⟨rfl, hb1⟩
    go_wp2
    go_ret
    exact ⟨by rfl, below_next HST0.out.below hb1⟩
  | true =>
    go_enter Tryz.func44, Tryz.ntmps44
    go_wp2_with fail
    rw [← hW0]
    clear hW0
    go_wp2_with fail
    (with_reducible refine (HP.out _ HST0.out.below).mono ?_)
    rintro e w1 ⟨rfl, hb1⟩
    have HST1 := Lib.hid (HST0.out.call hb1)
    have g1 := HST1.out.cell 0 1 rfl rfl
    have g2 := HST1.out.cell 0 2 rfl rfl
    clear hb1
    go_wp2_with fail
    (with_reducible refine (HC.out _ HST1.out.below).mono ?_)
    rintro e w2 ⟨rfl, q, rfl⟩
    go_wp2
    go_ret
    exact ⟨by rfl, below_drewN HST1.out.below q⟩
end Go.Proofs.YtnapdhfkgfjjfaaGreatDoor
