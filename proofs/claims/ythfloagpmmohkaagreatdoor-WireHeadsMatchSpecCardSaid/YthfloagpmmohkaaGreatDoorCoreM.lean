/- wire's reader of messages, as a plain function from state to state. No program in sight. -/
import Derived.Lib.Hide
namespace Go.Proofs.YthfloagpmmohkaaGreatDoor
open Go

/-- a pair of a head -/
abbrev Pr := List UInt8 × List UInt8
structure Msg where
  req : Bool := false
  meth : List UInt8 := []
  targ : List UInt8 := []
  status : Int := 0
  reason : List UInt8 := []
  head : List Pr := []
  body : List UInt8 := []
deriving DecidableEq
/-- the state: what is read byte by byte -/
structure Cr where
  req : Bool := false
  pos : Int := 0
  place : Int := 0
  begun : Bool := false
  m : Msg := {}
  word : List UInt8 := []
  line : Int := 0
  kind : Int := 0
  length : Int := 0
  first : Int := 0
  lengths : Bool := false
  coding : Bool := false
  closed : Bool := false
  body : List UInt8 := []
  done : List Msg := []
  fault : Int := 0
  no : Int := 0
deriving DecidableEq
namespace Cr
def isDig (b : UInt8) : Bool := decide (48 ≤ b.toNat) && decide (b.toNat ≤ 57)
def isCap (b : UInt8) : Bool := decide (65 ≤ b.toNat) && decide (b.toNat ≤ 90)
def isSml (b : UInt8) : Bool := decide (97 ≤ b.toNat) && decide (b.toNat ≤ 122)
def isLet (b : UInt8) : Bool := isSml b || isCap b
def isBlk (b : UInt8) : Bool := decide (b.toNat = 32) || decide (b.toNat = 9)
def inTxt (b : UInt8) : Bool := (decide (32 ≤ b.toNat) && decide (b.toNat ≤ 126)) || decide (b.toNat = 9)
def inTrg (b : UInt8) : Bool := decide (33 ≤ b.toNat) && decide (b.toNat ≤ 126)
def inRsn (b : UInt8) : Bool := decide (32 ≤ b.toNat) && decide (b.toNat ≤ 126)
/-- "-_.!#$%&'*+^|~" -/
def tokX : List UInt8 := [45, 95, 46, 33, 35, 36, 37, 38, 39, 42, 43, 94, 124, 126]
def inTok (b : UInt8) : Bool := isLet b || isDig b || tokX.contains b
def sml (l : List UInt8) : List UInt8 := l.map fun b => if isCap b then b + 32 else b
def hexV (b : UInt8) : Int := if isDig b then b.toNat - 48 else if decide (97 ≤ b.toNat) && decide (b.toNat ≤ 102) then b.toNat - 87 else if decide (65 ≤ b.toNat) && decide (b.toNat ≤ 70) then b.toNat - 55 else -1
/-- "HTTP/1.1" -/
def vers : List UInt8 := [72, 84, 84, 80, 47, 49, 46, 49]
/-- "content-length", "transfer-encoding", "chunked" in small letters -/
def conLen : List UInt8 := [99, 111, 110, 116, 101, 110, 116, 45, 108, 101, 110, 103, 116, 104]
def traEnc : List UInt8 := [116, 114, 97, 110, 115, 102, 101, 114, 45, 101, 110, 99, 111, 100, 105, 110, 103]
def chnkd : List UInt8 := [99, 104, 117, 110, 107, 101, 100]
def bare (s : Int) : Bool := decide (s < 200) || decide (s = 204) || decide (s = 304)
def dropEnd (p : UInt8 → Bool) (l : List UInt8) : List UInt8 := (l.reverse.dropWhile p).reverse
def fail (c : Cr) (a no : Int) : Cr := if c.no = 0 then { c with fault := a, no := no } else c
def wrong (c : Cr) : Cr := c.fail c.pos 6
def goOn (c : Cr) (p : Int) : Cr := { c with place := p, word := [] }
def fixed (c : Cr) (b : UInt8) (t : List UInt8) (next : Int) : Cr :=
  if t[c.word.length]? ≠ some b then c.wrong
  else if c.word.length + 1 = t.length then { c with word := c.word ++ [b] }.goOn next else { c with word := c.word ++ [b] }
def begin_ (c : Cr) : Cr := { req := c.req, pos := c.pos, done := c.done, m := { req := c.req }, place := if c.req then 3 else 0 }
def method (c : Cr) (b : UInt8) : Cr :=
  if b = 32 ∧ c.word ≠ [] then { c with m := { c.m with meth := c.word } }.goOn 4
  else if isCap b ∧ c.word.length < 20 then { c with word := c.word ++ [b] } else c.wrong
def target (c : Cr) (b : UInt8) : Cr :=
  if b = 32 ∧ c.word ≠ [] then { c with m := { c.m with targ := c.word } }.goOn 5
  else if inTrg b ∧ c.word.length < 4000 then { c with word := c.word ++ [b] } else c.wrong
def status (c : Cr) (b : UInt8) : Cr :=
  if c.word.length < 3 ∧ isDig b then
    let c := { c with word := c.word ++ [b], m := { c.m with status := c.m.status * 10 + (b.toNat - 48) } }
    if c.word.length = 3 ∧ (c.m.status < 100 ∨ 599 < c.m.status) then c.fail (c.pos - 2) 9 else c
  else if c.word.length = 3 ∧ b = 32 then c.goOn 2 else c.wrong
def reason (c : Cr) (b : UInt8) : Cr :=
  if b = 13 then { c with m := { c.m with reason := c.word } }.goOn 6
  else if inRsn b ∧ c.word.length < 100 then { c with word := c.word ++ [b] } else c.wrong
def feed (c : Cr) (b : UInt8) (next : Int) : Cr := if b ≠ 10 then c.wrong else c.goOn next
def full (c : Cr) : Bool := decide (8000 ≤ c.pos - c.line)
def nmK (c : Cr) : Int := if sml c.word = conLen then 1 else if sml c.word = traEnc then 2 else 0
def nmA (c : Cr) : Cr := if c.nmK = 0 then (if c.m.head.length = 100 then { c with kind := 0 }.fail c.line 3 else { c with kind := 0, m := { c.m with head := c.m.head ++ [(c.word, [])] } }) else { c with kind := c.nmK }
def nmB (c : Cr) : Cr := if c.lengths || c.coding then c.fail c.line 5 else c
def nmC (c : Cr) (k : Int) : Cr := { c with lengths := k == 1, coding := k == 2 }
def nmD (c : Cr) : Cr := if c.coding && (!c.req && bare c.m.status) then c.fail c.line 2 else c
def nmE (c : Cr) (k : Int) : Cr := if k = 0 then c else ((c.nmB).nmC k).nmD
def named (c : Cr) : Cr := { c.nmA.nmE c.nmK with closed := false }.goOn 9
def name (c : Cr) (b : UInt8) : Cr :=
  if b = 13 ∧ c.pos = c.line then c.goOn 12
  else if b = 58 ∧ c.word ≠ [] then c.named
  else if !inTok b ∨ c.word.length = 100 then c.wrong else { c with word := c.word ++ [b] }
def trail (c : Cr) (b : UInt8) (good : Bool) : Cr :=
  if !good then c.wrong else if b = 13 then c.goOn 11 else if !isBlk b then c.wrong else if c.full then c.fail c.pos 3 else { c with closed := true }
def digA (c : Cr) : Cr := if c.word.length = 0 then { c with first := c.pos, length := 0 } else c
def digT (c : Cr) (b : UInt8) : Bool := !decide (b.toNat = 48) && (!c.req && bare c.m.status)
def digB (c : Cr) (b : UInt8) : Cr := if c.digT b then c.fail c.line 2 else c
def digC (c : Cr) : Cr := if c.full then c.fail c.pos 3 else c
def digD (c : Cr) (b : UInt8) (m d : Int) : Cr := { c with word := c.word ++ [b], length := c.length * m + d }
def digE (c : Cr) (k : Int) : Cr := if 1000000 < k + c.length then c.fail c.first 3 else c
def digit (c : Cr) (b : UInt8) : Cr :=
  if !isDig b ∨ c.closed then c.trail b (decide (0 < c.word.length))
  else if c.word.length = 7 ∨ (0 < c.word.length ∧ c.word[0]? = some 48) then c.wrong
  else (((c.digA.digB b).digC).digD b 10 ((b.toNat : Int) - 48)).digE 0
def chunked (c : Cr) (b : UInt8) : Cr :=
  if c.word.length = 7 then c.trail b true
  else if chnkd[c.word.length]? ≠ (sml [b])[0]? then c.wrong
  else { c.digC with word := c.word ++ [b] }
/-- the last pair's value -/
def setVal (c : Cr) : Cr := { c with m := { c.m with head := match c.m.head.getLast? with | none => [] | some p => c.m.head.dropLast ++ [(p.1, dropEnd isBlk c.word)] } }
def value (c : Cr) (b : UInt8) : Cr :=
  if c.kind = 1 then c.digit b else if c.kind = 2 then c.chunked b
  else if b = 13 then c.setVal.goOn 11 else if !inTxt b then c.wrong else if c.full then c.fail c.pos 3 else { c with word := c.word ++ [b] }
def size (c : Cr) (b : UInt8) : Cr :=
  if b = 13 ∧ 0 < c.word.length then { c with place := 15 }
  else if hexV b < 0 ∨ c.word.length = 6 ∨ (0 < c.word.length ∧ c.word[0]? = some 48) then c.wrong
  else (c.digA.digD b 16 (hexV b)).digE c.body.length
def finish (c : Cr) : Cr := { c with m := { c.m with body := c.body }, done := c.done ++ [{ c.m with body := c.body }], begun := false }
def headed (c : Cr) : Cr := if c.coding then c.goOn 14 else if c.lengths ∧ 0 < c.length then c.goOn 13 else c.finish
def data (c : Cr) (b : UInt8) : Cr :=
  let c := { c with body := c.body ++ [b], length := c.length - 1 }
  if 0 < c.length then c else if c.place = 16 then c.goOn 17 else c.finish
def head (c : Cr) (b : UInt8) : Cr :=
  if c.place = 0 then c.fixed b (vers ++ [32]) 1 else if c.place = 1 then c.status b else if c.place = 2 then c.reason b else if c.place = 3 then c.method b
  else if c.place = 4 then c.target b else if c.place = 5 then c.fixed b (vers ++ [13]) 6 else c.feed b 7
def pair (c : Cr) (b : UInt8) : Cr :=
  if c.place = 7 then { c with line := c.pos, place := 8 }.name b
  else if c.place = 8 then c.name b
  else if c.place = 9 then (if !isBlk b then { c with place := 10 }.value b else if c.full then c.fail c.pos 3 else c)
  else if c.place = 10 then c.value b
  else if c.place = 11 then c.feed b 7
  else let c := c.feed b 12
    if c.no = 0 then c.headed else c
def content (c : Cr) (b : UInt8) : Cr :=
  if c.place = 13 ∨ c.place = 16 then c.data b
  else if c.place = 14 then c.size b
  else if c.place = 15 then c.feed b (if c.length = 0 then 19 else 16)
  else if c.place = 17 then c.fixed b [13] 18
  else if c.place = 18 then c.feed b 14
  else if c.place = 19 then c.fixed b [13] 20
  else let c := c.feed b 20
    if c.no = 0 then c.finish else c
def take (c : Cr) (b : UInt8) : Cr :=
  let c := if c.begun then c else { c.begin_ with begun := true }
  let c := if c.place ≤ 6 then c.head b else if c.place ≤ 12 then c.pair b else c.content b
  { c with pos := c.pos + 1 }
def run (c : Cr) : List UInt8 → Cr
  | [] => c
  | b :: l => if c.no = 0 then (c.take b).run l else c
end Cr
/-- "HTTP/1.1 200 OK\r\nContent-Length: 2\r\n\r\nab" -/
def smallT : List UInt8 := [72, 84, 84, 80, 47, 49, 46, 49, 32, 50, 48, 48, 32, 79, 75, 13, 10, 67, 111, 110, 116, 101, 110, 116, 45, 76, 101, 110, 103, 116, 104, 58, 32, 50, 13, 10, 13, 10, 97, 98]
theorem small_run : (({} : Cr).run smallT).done = [{ status := 200, reason := [79, 75], body := [97, 98] }] ∧ (({} : Cr).run smallT).no = 0 ∧ (({} : Cr).run smallT).begun = false := by decide +kernel
end Go.Proofs.YthfloagpmmohkaaGreatDoor
