/- Package dynamometerref7: reached. -/
import Derived.Test.YtepfmoaihhonlaaGreatDoorGFrac
import Derived.Test.YtepfmoaihhonlaaGreatDoorGLoad
namespace Go.Proofs.YtepfmoaihhonlaaGreatDoor
open Go Go.RowKit Go.Proofs

/-- twice the length times the area behind a place of a stage (without what is ahead), its two parts -/
def lftN (F x p : Int) : Nat := (2 * F).toNat * x.toNat * p.toNat
def sqrN (x y p : Int) : Nat := (max (y - x) (x - y)).toNat * (p.toNat * p.toNat)
/-- what reached tells of a place -/
def rchB (F x y p : Int) (q : Rat) : Bool :=
  if x ≤ y then decide (frN q ≤ (lftN F x p + sqrN x y p) * q.den) else decide (frN q + sqrN x y p * q.den ≤ lftN F x p * q.den)
theorem mul_len {w w1 w2 : World} {A1 A2 A3 : Option Addr} {c1 c2 c3 : Nat} {l1 l2 l3 : List Nat} {x y : Nat} (h1 : RNatR w1 A1 c1 l1 x) (h2 : RNatR w2 A2 c2 l2 y) (h3 : RNatR w A3 c3 l3 (x * y)) : l3.length ≤ l1.length + l2.length :=
  h3.len (by rw [Nat.pow_add]; exact Nat.mul_lt_mul'' (rval_lt h1.norm h1.val) (rval_lt h2.norm h2.val))
theorem add_len {w w1 w2 : World} {A1 A2 A3 : Option Addr} {c1 c2 c3 : Nat} {l1 l2 l3 : List Nat} {x y : Nat} (h1 : RNatR w1 A1 c1 l1 x) (h2 : RNatR w2 A2 c2 l2 y) (h3 : RNatR w A3 c3 l3 (x + y)) : l3.length ≤ l1.length + l2.length + 1 :=
  h3.len (by
    have hx := rval_lt h1.norm h1.val
    have hy := rval_lt h2.norm h2.val
    have g1 : T4 ^ l1.length ≤ T4 ^ (l1.length + l2.length) := Nat.pow_le_pow_right (by unfold T4; omega) (by omega)
    have g2 : T4 ^ l2.length ≤ T4 ^ (l1.length + l2.length) := Nat.pow_le_pow_right (by unfold T4; omega) (by omega)
    have g3 : T4 ^ (l1.length + l2.length + 1) = T4 ^ (l1.length + l2.length) * 10000 := Nat.pow_succ T4 (l1.length + l2.length)
    omega)
theorem rnatCmpB_any (A1 A2 : Option Addr) (c1 c2 : Nat) (l1 l2 : List Nat) (x y : Nat) (w : World) (h1 : RNatR w A1 c1 l1 x) (h2 : RNatR w A2 c2 l2 y) (hs : l1.length ≤ 1000000) (hs2 : l2.length ≤ 1000000) :
    Calls Tryz.prog 78 #[.slice A1 l1.length c1, .slice A2 l2.length c2] w fun e w' => e = .returned (.int .i64 (cmpN x y)) ∧ Below w.heap.size w w' :=
  (rnatCmp_any A1 A2 c1 c2 l1 l2 x y w h1 h2 hs hs2).mono fun e w' ⟨he, q, hq⟩ => ⟨he, by rw [hq]; exact below_drewN (Below.refl _ w) q⟩
theorem cmp_ge {x y : Nat} : decide (0 ≤ cmpN x y) = decide (y ≤ x) := by
  unfold cmpN
  split
  · simp; omega
  · split
    · simp; omega
    · simp; omega

end Go.Proofs.YtepfmoaihhonlaaGreatDoor
