import Derived.Test.YtnpfdelklolchaaGreatDoorNatDivK
import Derived.Deep.LoopGhost
import Derived.Test.YtnpfdelklolchaaGreatDoorG0
import Derived.OrdersHeld
import Derived.Below
/- Package nat: Zero, Int, Gcd. -/
namespace Go.Proofs.YtnpfdelklolchaaGreatDoor
open Go Go.RowKit Go.Proofs

theorem natZero_any (A : Option Addr) (c : Nat) (l : List Nat) (w : World) (hs : l.length ≤ 1000000) :
    Calls Tryz.prog 96 #[.slice A l.length c] w fun e w' => e = .returned (.bool ((l.length : Int) == 0)) ∧ w = w' := by
  go_enter Tryz.func96, Tryz.ntmps96
  go_wp2
  go_ret
  exact ⟨rfl, rfl⟩

set_option maxHeartbeats 2000000 in
set_option maxRecDepth 100000 in
theorem natGcd_any (A1 A2 : Option Addr) (c1 c2 : Nat) (l1 l2 : List Nat) (x y : Nat) (w : World) (h1 : NatR w A1 c1 l1 x) (h2 : NatR w A2 c2 l2 y) (hs : l1.length ≤ 900000) (hs2 : l2.length ≤ 900000) :
    Calls Tryz.prog 66 #[.slice A1 l1.length c1, .slice A2 l2.length c2] w (NatPost (Nat.gcd x y) w) := by
  have HN1 := Lib.hid h1
  have HN2 := Lib.hid h2
  clear h1 h2
  go_enter Tryz.func66, Tryz.ntmps66
  go_wp2_with fail
  go_loopg [0, 1] y (fun k a b wr => ∃ (A1 A2 : Option Addr) (c1 c2 : Nat) (l1 l2 : List Nat) (x' : Nat), a = .slice A1 l1.length c1 ∧ b = .slice A2 l2.length c2 ∧ NatR wr A1 c1 l1 x' ∧ NatR wr A2 c2 l2 k ∧ Nat.gcd x' k = Nat.gcd x y ∧ l1.length ≤ 900000 ∧ l2.length ≤ 900000 ∧ Below w.heap.size w wr)
  case atStart => exact ⟨A1, A2, c1, c2, l1, l2, x, rfl, rfl, HN1.out, HN2.out, rfl, hs, hs2, Below.refl _ _⟩
  case round =>
    obtain ⟨A3, A4, c3, c4, l3, l4, x', rfl, rfl, h3, h4, hg, hs3, hs4, hb⟩ := hrel
    have HZ := Lib.hid (fun W => natZero_any A4 c4 l4 W (by omega))
    rcases Nat.eq_zero_or_pos gk with h0 | h0
    · have h0' : l4 = [] := (val_zero W64_pos h4.norm).1 (by rw [h4.val, h0])
      subst h0'
      have HR := Lib.hid (show NatPost (Nat.gcd x y) w (.returned (.slice A3 l3.length c3)) wr from ⟨_, _, _, rfl, by rw [← hg, h0, Nat.gcd_zero_right]; exact h3, hb⟩)
      clear hg h3 h4 hb h0
      go_wp2_with fail
      refine (HZ.out _).mono ?_
      rintro e w' ⟨rfl, rfl⟩
      go_wp2
      go_ret
      exact HR.out
    · have hl4 : l4 ≠ [] := by
        rintro rfl
        have := h4.val
        simp [val] at this; omega
      have hl4' : l4.length ≠ 0 := fun h => hl4 (List.eq_nil_of_length_eq_zero h)
      have hz : ((l4.length : Int) == 0) = false := by simpa using hl4
      have HD := Lib.hid (natDivMod_any A3 A4 c3 c4 l3 l4 x' gk wr h3 h4 hs3 hs4 h0)
      have HG := Lib.hid hg
      have H4 := Lib.hid h4
      have HB := Lib.hid hb
      clear hg h3 h4 hb hl4 hl4'
      go_wp2_with fail
      refine (HZ.out _).mono ?_
      rintro e w' ⟨rfl, rfl⟩
      go_wp2_with fail
      refine HD.out.mono ?_
      rintro e w1 ⟨A5, c5, l5, A6, c6, l6, rfl, h5, h6, hb1⟩
      have HR := Lib.hid (show NatR w1 A4 c4 l4 gk ∧ NatR w1 A6 c6 l6 (x' % gk) ∧ Nat.gcd gk (x' % gk) = Nat.gcd x y ∧ l6.length ≤ 900000 ∧ Below w.heap.size w w1 from ⟨H4.out.on hb1, h6, by
        rw [← HG.out, Nat.gcd_comm gk, ← Nat.gcd_rec, Nat.gcd_comm], by
        have := len_of_lt (n := l4.length) h6.norm h6.val (by
          have := val_lt H4.out.norm.1
          rw [H4.out.val] at this
          have := Nat.mod_lt x' h0
          omega)
        omega, HB.out.trans (hb1.mono HB.out.size)⟩)
      clear h5 h6 hb1
      go_wp2
      go_roundg (x' % gk)
      case measure => exact Nat.mod_lt _ h0
      case rel => exact ⟨A4, A6, c4, c6, l4, l6, gk, rfl, rfl, HR.out.1, HR.out.2.1, HR.out.2.2.1, hs4, HR.out.2.2.2.1, HR.out.2.2.2.2⟩
end Go.Proofs.YtnpfdelklolchaaGreatDoor

/- Fractions of package judge, not in lowest terms: plain. -/
namespace Go.Proofs.YtnpfdelklolchaaGreatDoor

/-- lowest terms -/
theorem low_parts (b : Bool) {x y : Nat} (hy : 0 < y) : frS (mkRat (sg b x) y) = (b && !decide (x / Nat.gcd y x = 0)) ∧ frN (mkRat (sg b x) y) = x / Nat.gcd y x ∧ (mkRat (sg b x) y).den = y / Nat.gcd y x := by
  rw [Nat.gcd_comm]
  rcases Nat.eq_zero_or_pos x with h | h
  · subst h
    rw [low_zero, Nat.gcd_zero_left, Nat.zero_div, Nat.div_self hy]
    refine ⟨?_, rfl, rfl⟩
    simp [frS]
  · obtain ⟨h1, h2, h3⟩ := low_pos (b := b) h hy
    have : x / Nat.gcd x y ≠ 0 := by
      have := Nat.div_pos (Nat.le_of_dvd h (Nat.gcd_dvd_left x y)) (Nat.gcd_pos_of_pos_left y h)
      omega
    exact ⟨by rw [h1]; simp [this], h2, h3⟩
end Go.Proofs.YtnpfdelklolchaaGreatDoor

/- A region that draws its order and ends in one operation that waits for all others: that operation apart. No program in sight. -/
namespace Go.Proofs.YtnpfdelklolchaaGreatDoor
open Go Go.RowKit

section
variable {P : Program} {Q : Exit → Act → World → Prop} {md : Region.Mode}
variable {init : Array Oper} {last : Oper}
theorem wanted_none {o : Oper} (h : o.guard = none) (f : Nat → Option Bool) : Region.wanted o f = true := by simp [Region.wanted, h]
variable {ops : Array Oper} {S : World → Prop}
/-- one alone may come up -/
theorem run_one {i : Nat} {o : Oper} {fuel : Nat} {listed : Array Bool} {a : Act} {w : World} (hr : Region.ready md ops listed = [i]) (ho : ops[i]? = some o) (hg : o.guard = none)
    (h : ∀ K : Act → World → Prop, Hid (∀ a' w', S w' → (S w' → wpAnyH P md ops Q S fuel (listed.setIfInBounds i true) a' w') → K a' w') → o.wp P a w K Q) : wpAnyH P md ops Q S (fuel + 1) listed a w := by
  refine wpAnyH_all (rs := [i]) hr (by simp) fun j hj => ?_
  obtain rfl : j = i := by simpa using hj
  unfold wpOp
  rw [ho]
  simp only [wanted_none hg, if_true]
  exact .inl (h _ (fun a' w' h1 h2 => ⟨h1, h2 h1⟩))
end
end Go.Proofs.YtnpfdelklolchaaGreatDoor
