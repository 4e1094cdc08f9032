import Derived.Test.YtnapdhfkgfjjfaaGreatDoorG0
import Derived.Test.YtnapdhfkgfjjfaaGreatDoorG31
import Derived.Test.YtnapdhfkgfjjfaaGreatDoorG25
/- Erlang's formulas: plain. -/
namespace Go.Proofs.YtnapdhfkgfjjfaaGreatDoor
open Go

end Go.Proofs.YtnapdhfkgfjjfaaGreatDoor

/- Erlang's formulas: sizes, codes, values. Plain. -/
namespace Go.Proofs.YtnapdhfkgfjjfaaGreatDoor
open Go

end Go.Proofs.YtnapdhfkgfjjfaaGreatDoor

/- Erlang's formulas: what Blocked, Waiting and Servers tell. Plain. -/
namespace Go.Proofs.YtnapdhfkgfjjfaaGreatDoor
open Go

theorem ordQ_lt {p q : Rat} : ordQ p q < 0 ↔ p < q := by
  unfold ordQ
  split
  · rename_i h; simp [h]
  · rename_i h
    split
    · rename_i h2; subst h2; simp
    · simp; exact h
end Go.Proofs.YtnapdhfkgfjjfaaGreatDoor
