/- wire's reader of messages: what the state keeps within. No program in sight. Printed by wip/gen_core.py. -/
import Derived.Test.YthfloagpmmohkaaGreatDoorCoreM
namespace Go.Proofs.YthfloagpmmohkaaGreatDoor
open Go

/-- what the methods ask for -/
structure Cr.Fit (c : Cr) : Prop where
  w : c.word.length ≤ 1000000000
  st : -1000000 ≤ c.m.status ∧ c.m.status ≤ 1000000
  len : 0 ≤ c.length ∧ c.length ≤ 1000000000
  pos : -4000000000 ≤ c.pos ∧ c.pos ≤ 4000000000
  line : -4000000000 ≤ c.line ∧ c.line ≤ 4000000000
  ck : c.place = 9 ∨ c.place = 10 → c.kind = 2 → c.word.length ≤ 7
  hn : c.place = 9 ∨ c.place = 10 → ¬ c.kind = 1 → ¬ c.kind = 2 → c.m.head ≠ []
  hl : c.m.head.length ≤ 1000
  dl : c.done.length ≤ 1000000000
  bl : c.body.length ≤ 1000000000
  f0 : c.place = 0 ∨ c.place = 5 → c.word.length < 9
  f1 : c.place = 17 ∨ c.place = 19 → c.word.length < 1
end Go.Proofs.YthfloagpmmohkaaGreatDoor
