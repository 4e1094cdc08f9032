import Derived.Test.YtpmnhdgajkickaaGreatDoorB8
import Derived.Test.YtpmnhdgajkickaaGreatDoorB1
import Derived.Test.YtpmnhdgajkickaaGreatDoorB20
/- Quotients of fractions: plain. -/
namespace Go.Proofs.YtpmnhdgajkickaaGreatDoor
open Go

theorem inv_mk (s : Bool) {x y : Nat} (hx : 0 < x) (hy : 0 < y) : (mkRat (sg s x) y)⁻¹ = mkRat (sg s y) x := by
  have e : mkRat (sg s x) y * mkRat (sg s y) x = 1 := by
    rw [← tm_eq, show (s != s) = false by simp, Nat.mul_comm y x]
    have h0 : 0 < x * y := Nat.mul_pos hx hy
    show mkRat ((x * y : Nat) : Int) (x * y) = 1
    rw [Rat.mkRat_eq_div, Rat.div_def]
    refine Rat.mul_inv_cancel _ ?_
    intro hc
    have : x * y = 0 := by exact_mod_cast hc
    omega
  have hne : mkRat (sg s x) y ≠ 0 := by
    intro hc
    rw [hc, Rat.zero_mul] at e
    exact absurd e (by decide)
  have h1 := Rat.inv_mul_cancel _ hne
  have : (mkRat (sg s x) y)⁻¹ * (mkRat (sg s x) y * mkRat (sg s y) x) = mkRat (sg s y) x := by rw [← Rat.mul_assoc, h1, Rat.one_mul]
  rw [e, Rat.mul_one] at this
  exact this
theorem ov_eq (b1 : Bool) (x1 : Nat) {y1 : Nat} (b2 : Bool) {x2 y2 : Nat} (hx : 0 < x2) (hy : 0 < y2) : mkRat (sg (b1 != b2) (x1 * y2)) (y1 * x2) = mkRat (sg b1 x1) y1 / mkRat (sg b2 x2) y2 := by
  rw [Rat.div_def, inv_mk b2 hx hy, tm_eq]
/-- bounds of a value through any form of it -/
theorem mk_sz {b : Bool} {x y X Y : Nat} (hy : 0 < y) (hx : x < X) (hY : y < Y) : frN (mkRat (sg b x) y) < X ∧ (mkRat (sg b x) y).den < Y := by
  obtain ⟨_, h2, h3⟩ := low_parts b (x := x) hy
  rw [h2, h3]
  exact ⟨Nat.lt_of_le_of_lt (Nat.div_le_self _ _) hx, Nat.lt_of_le_of_lt (Nat.div_le_self _ _) hY⟩
end Go.Proofs.YtpmnhdgajkickaaGreatDoor

/- Erlang's formulas: plain. -/
namespace Go.Proofs.YtpmnhdgajkickaaGreatDoor
open Go

end Go.Proofs.YtpmnhdgajkickaaGreatDoor

/- Erlang's formulas: sizes, codes, values. Plain. -/
namespace Go.Proofs.YtpmnhdgajkickaaGreatDoor
open Go

end Go.Proofs.YtpmnhdgajkickaaGreatDoor

/- Erlang's formulas: what Blocked, Waiting and Servers tell. Plain. -/
namespace Go.Proofs.YtpmnhdgajkickaaGreatDoor
open Go

theorem ordQ_lt {p q : Rat} : ordQ p q < 0 ↔ p < q := by
  unfold ordQ
  split
  · rename_i h; simp [h]
  · rename_i h
    split
    · rename_i h2; subst h2; simp
    · simp; exact h
end Go.Proofs.YtpmnhdgajkickaaGreatDoor
