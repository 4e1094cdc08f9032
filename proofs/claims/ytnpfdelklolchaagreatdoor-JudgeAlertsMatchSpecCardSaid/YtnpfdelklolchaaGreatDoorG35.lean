import Derived.Test.YtnpfdelklolchaaGreatDoorG34
import Derived.Test.YtnpfdelklolchaaGreatDoorG22
import Derived.Test.YtnpfdelklolchaaGreatDoorG1
/- Changes: the common number, the order of divisions as the program asks for it, and how great the costs are: plain. -/
namespace Go.Proofs.YtnpfdelklolchaaGreatDoor
open Go

section
variable (c : Nat → Nat → Nat) (E : Nat)
end
end Go.Proofs.YtnpfdelklolchaaGreatDoor

/- Lines through points: bounds, parts of the list. Plain. -/
namespace Go.Proofs.YtnpfdelklolchaaGreatDoor
open Go Go.RowKit Go.Proofs

def OkP (l : List (Int × Int)) : Prop := ∀ p ∈ l, (-1000000 ≤ p.1 ∧ p.1 ≤ 1000000) ∧ (-1000000 ≤ p.2 ∧ p.2 ≤ 1000000)
theorem OkP.take {l : List (Int × Int)} (h : OkP l) (i : Nat) : OkP (l.take i) := fun p hp => h p (List.mem_of_mem_take hp)
theorem OkP.drop {l : List (Int × Int)} (h : OkP l) (i : Nat) : OkP (l.drop i) := fun p hp => h p (List.mem_of_mem_drop hp)
/-- the bounds of all sums -/
structure BndP (l : List (Int × Int)) : Prop where
  n : l.length ≤ 300
  x1 : -300000000 ≤ pX l
  x2 : pX l ≤ 300000000
  y1 : -300000000 ≤ pY l
  y2 : pY l ≤ 300000000
  xx1 : -300000000000000 ≤ pXX l
  xx2 : pXX l ≤ 300000000000000
  xy1 : -300000000000000 ≤ pXY l
  xy2 : pXY l ≤ 300000000000000
  yy1 : -300000000000000 ≤ pYY l
  yy2 : pYY l ≤ 300000000000000
end Go.Proofs.YtnpfdelklolchaaGreatDoor

/- What Changes returns: plain. -/
namespace Go.Proofs.YtnpfdelklolchaaGreatDoor
open Go

section
variable {l : List Int} {pen : Int}
end
end Go.Proofs.YtnpfdelklolchaaGreatDoor
