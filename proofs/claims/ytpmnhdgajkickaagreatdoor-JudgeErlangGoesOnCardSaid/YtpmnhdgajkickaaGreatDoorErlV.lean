/- Erlang's formulas: what Blocked, Waiting and Servers tell. Plain. -/
import Derived.Test.YtpmnhdgajkickaaGreatDoorErlM2
import Derived.Test.YtpmnhdgajkickaaGreatDoorB20
namespace Go.Proofs.YtpmnhdgajkickaaGreatDoor
open Go

def eC (c lo : Int) (a b : List UInt8) : Int := if c < lo ∨ 50 < c then 9 else shC .positive a b
def blkT (c : Int) (a b : List UInt8) : List UInt8 × List UInt8 := if eC c 0 a b = 0 then rtT (erB (ratX a b) c.toNat) else ([], [])
def blkE (c : Int) (a b : List UInt8) : Int := if eC c 0 a b = 0 then rtC (erB (ratX a b) c.toNat) else eC c 0 a b
def wtC (c : Int) (a b : List UInt8) : Int := if eC c 1 a b ≠ 0 then eC c 1 a b else if ordQ (ratX a b) (c : Rat) < 0 then 0 else 9
def wtT (c : Int) (a b : List UInt8) : List UInt8 × List UInt8 := if wtC c a b = 0 then rtT (erW (ratX a b) c.toNat) else ([], [])
def wtE (c : Int) (a b : List UInt8) : Int := if wtC c a b = 0 then rtC (erW (ratX a b) c.toNat) else wtC c a b
def srvP (a s : Rat) (c : Nat) : Bool := decide (ordQ a ((c : Int) : Rat) < 0) && decide (ordQ (erW a c) s ≤ 0)
def srvC (a b d e : List UInt8) : Int := if shC .positive a b ≠ 0 then shC .positive a b else shC .share d e
def srvV (a b d e : List UInt8) : Int := if srvC a b d e ≠ 0 then 0 else (firstP (srvP (ratX a b) (ratX d e)) 50 : Nat)
def srvE (a b d e : List UInt8) : Int := if srvC a b d e ≠ 0 then srvC a b d e else if firstP (srvP (ratX a b) (ratX d e)) 50 = 0 then 4 else 0
theorem eC_range {c lo : Int} {a b : List UInt8} (h : c < lo ∨ 50 < c) : eC c lo a b = 9 := by unfold eC; rw [if_pos h]
theorem eC_ok {c lo : Int} {a b : List UInt8} (h : ¬ (c < lo ∨ 50 < c)) : eC c lo a b = shC .positive a b := by unfold eC; rw [if_neg h]
theorem blk_bad {c : Int} {a b : List UInt8} (h : eC c 0 a b ≠ 0) : blkT c a b = ([], []) ∧ blkE c a b = eC c 0 a b := by unfold blkT blkE; rw [if_neg h, if_neg h]; exact ⟨rfl, rfl⟩
theorem blk_ok {c : Int} {a b : List UInt8} (h : eC c 0 a b = 0) : blkT c a b = rtT (erB (ratX a b) c.toNat) ∧ blkE c a b = rtC (erB (ratX a b) c.toNat) := by unfold blkT blkE; rw [if_pos h, if_pos h]; exact ⟨rfl, rfl⟩
theorem wt_bad {c : Int} {a b : List UInt8} (h : wtC c a b ≠ 0) : wtT c a b = ([], []) ∧ wtE c a b = wtC c a b := by unfold wtT wtE; rw [if_neg h, if_neg h]; exact ⟨rfl, rfl⟩
theorem wt_ok {c : Int} {a b : List UInt8} (h : wtC c a b = 0) : wtT c a b = rtT (erW (ratX a b) c.toNat) ∧ wtE c a b = rtC (erW (ratX a b) c.toNat) := by unfold wtT wtE; rw [if_pos h, if_pos h]; exact ⟨rfl, rfl⟩
theorem wtC_one {c : Int} {a b : List UInt8} (h : eC c 1 a b ≠ 0) : wtC c a b = eC c 1 a b := by unfold wtC; rw [if_pos h]
theorem wtC_two {c : Int} {a b : List UInt8} (h : eC c 1 a b = 0) (h2 : ordQ (ratX a b) (c : Rat) < 0) : wtC c a b = 0 := by unfold wtC; rw [if_neg (by omega), if_pos h2]
theorem wtC_three {c : Int} {a b : List UInt8} (h : eC c 1 a b = 0) (h2 : ¬ ordQ (ratX a b) (c : Rat) < 0) : wtC c a b = 9 := by unfold wtC; rw [if_neg (by omega), if_neg h2]
/-- a positive short ratio -/
theorem posit_parts {a b : List UInt8} (h : shC .positive a b = 0) : frS (ratX a b) = false ∧ 0 < frN (ratX a b) ∧ frN (ratX a b) ≤ 1000000 ∧ (ratX a b).den ≤ 1000000 := by
  obtain ⟨s1, s2, s3, s4⟩ := shC_small h
  have h4 := (shC_zero h).2.2.2
  simp only [inQ, Bool.and_eq_true, decide_eq_true_eq] at h4
  exact ⟨s4, h4.2, by omega, by omega⟩
theorem ordQ_lt {p q : Rat} : ordQ p q < 0 ↔ p < q := by
  unfold ordQ
  split
  · rename_i h; simp [h]
  · rename_i h
    split
    · rename_i h2; subst h2; simp
    · simp; exact h
/-- from one server on -/
theorem erB_one {a : Rat} (ha : 0 < a) (c : Nat) : ((c + 1 : Nat) : Rat) + a * erB a c ≠ 0 := by
  have h3 := natR_pos c
  have hx : 0 < a * erB a c := Rat.mul_pos ha (erB_pos ha c)
  generalize a * erB a c = y at *
  generalize ((c + 1 : Nat) : Rat) = n at *
  intro hc
  grind
end Go.Proofs.YtpmnhdgajkickaaGreatDoor
