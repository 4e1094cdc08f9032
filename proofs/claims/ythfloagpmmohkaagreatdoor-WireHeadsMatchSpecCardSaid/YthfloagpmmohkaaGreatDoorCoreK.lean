/- wire's reader of messages: the state keeps within its bounds. No program in sight. -/
import Derived.Test.YthfloagpmmohkaaGreatDoorCoreI
namespace Go.Proofs.YthfloagpmmohkaaGreatDoor
open Go

/-- what holds while a message is read; p: the bytes read so far -/
structure Cr.In (c : Cr) (p : Int) : Prop where
  w : (c.word.length : Int) ≤ p
  bl : (c.body.length : Int) ≤ p
  hl : c.m.head.length ≤ 100
  len : 0 ≤ c.length ∧ c.length ≤ 1000000
  dt : c.place = 13 ∨ c.place = 16 → 0 < c.length
  line : 0 ≤ c.line ∧ c.line ≤ p
  st : 0 ≤ c.m.status ∧ c.m.status ≤ 999
  s0 : c.place = 0 → c.m.status = 0
  s1 : c.place = 1 → c.word.length ≤ 3 ∧ (c.word.length = 0 → c.m.status ≤ 0) ∧ (c.word.length = 1 → c.m.status ≤ 9) ∧ (c.word.length = 2 → c.m.status ≤ 99)
  ck : c.place = 9 ∨ c.place = 10 → c.kind = 2 → c.word.length ≤ 7
  hn : c.place = 9 ∨ c.place = 10 → ¬ c.kind = 1 → ¬ c.kind = 2 → c.m.head ≠ []
  f0 : c.place = 0 ∨ c.place = 5 → c.word.length < 9
  f1 : c.place = 17 ∨ c.place = 19 → c.word.length < 1
/-- what a step makes of a state whose bytes so far are p -/
def Cr.Nx (r : Cr) (p : Int) (d : Nat) : Prop := r.no = 0 → r.pos = p ∧ r.done.length ≤ d + 1 ∧ (r.begun = true → r.In (p + 1))
namespace Cr
variable {c : Cr} {b : UInt8} {p : Int} {d : Nat}
theorem Nx.bad (h : c.no ≠ 0) : c.Nx p d := fun e => absurd e h
theorem fail_no (a n : Int) (hn : n ≠ 0) : (c.fail a n).no ≠ 0 := by
  unfold Cr.fail
  split
  · exact hn
  · assumption
theorem wrong_no : (c.wrong).no ≠ 0 := fail_no _ _ (by omega)
theorem Nx.wrong : c.wrong.Nx p d := .bad wrong_no
theorem Nx.fail (a n : Int) (hn : n ≠ 0) : (c.fail a n).Nx p d := .bad (fail_no _ _ hn)
theorem In.mono {q : Int} (h : c.In p) (hq : p ≤ q) : c.In q := ⟨by have := h.w; omega, by have := h.bl; omega, h.hl, h.len, h.dt, ⟨h.line.1, by have := h.line.2; omega⟩, h.st, h.s0, h.s1, h.ck, h.hn, h.f0, h.f1⟩
theorem In.self (h : c.In p) (hp : c.pos = p) : c.Nx p c.done.length := fun _ => ⟨hp, by omega, fun _ => h.mono (by omega)⟩
/-- a place without further demands -/
theorem In.goOn (h : c.In p) (hp : c.pos = p) (k : Int) (k1 : k ≠ 0) (k2 : k = 1 → c.m.status = 0) (k3 : k = 13 ∨ k = 16 → 0 < c.length) (k4 : k = 9 ∨ k = 10 → ¬ c.kind = 1 → ¬ c.kind = 2 → c.m.head ≠ []) : (c.goOn k).Nx p c.done.length := fun _ => by
  have hw := h.w
  refine ⟨hp, by show c.done.length ≤ _; omega, fun _ => ⟨?_, ?_, h.hl, h.len, k3, ⟨h.line.1, by have := h.line.2; show c.line ≤ _; omega⟩, h.st, fun e => absurd e k1, fun e => ?_, fun _ _ => by show (0 : Nat) ≤ 7; omega, k4, fun _ => by show (0 : Nat) < 9; omega, fun _ => by show (0 : Nat) < 1; omega⟩⟩
  · show ((0 : Nat) : Int) ≤ _; omega
  · have := h.bl; show (c.body.length : Int) ≤ _; omega
  · have := k2 e
    exact ⟨by show (0 : Nat) ≤ 3; omega, fun _ => by show c.m.status ≤ 0; omega, fun e2 => (by cases e2), fun e2 => (by cases e2)⟩
/-- one more byte of a word -/
theorem In.add (h : c.In p) (hp : c.pos = p) (b : UInt8) (h1 : c.place ≠ 1) (h2 : c.place = 9 ∨ c.place = 10 → c.kind = 2 → c.word.length < 7) (h3 : c.place = 0 ∨ c.place = 5 → c.word.length < 8) (h4 : ¬ (c.place = 17 ∨ c.place = 19)) : ({ c with word := c.word ++ [b] } : Cr).Nx p c.done.length := fun _ => by
  have hw := h.w
  have hb := h.bl
  have hl := h.line
  have hx : (c.word ++ [b]).length = c.word.length + 1 := by simp
  refine ⟨hp, by show c.done.length ≤ _; omega, fun _ => ⟨by show ((c.word ++ [b]).length : Int) ≤ _; omega, by show (c.body.length : Int) ≤ _; omega, h.hl, h.len, h.dt, ⟨hl.1, by show c.line ≤ _; omega⟩, h.st, h.s0, fun e => absurd e h1, fun e e2 => ?_, h.hn, fun e => ?_, fun e => absurd e h4⟩⟩
  · have := h2 e e2; show (c.word ++ [b]).length ≤ 7; omega
  · have := h3 e; show (c.word ++ [b]).length < 9; omega
theorem isDig_bd (h : isDig b = true) : (0 : Int) ≤ (b.toNat : Int) - 48 ∧ (b.toNat : Int) - 48 ≤ 9 := by
  unfold isDig at h
  simp only [Bool.and_eq_true, decide_eq_true_eq] at h
  omega
theorem nx_fixed (h : c.In p) (hp : c.pos = p) (t : List UInt8) (n : Int) (hn : n ≠ 0) (hn1 : n = 1 → c.m.status = 0) (hn2 : ¬ (n = 13 ∨ n = 16)) (hn3 : ¬ (n = 9 ∨ n = 10)) (h1 : c.place ≠ 1) (h2 : ¬ (c.place = 9 ∨ c.place = 10)) (h3 : c.place = 0 ∨ c.place = 5 → t.length = 9 ∧ c.word.length < 9) (h4 : c.place = 17 ∨ c.place = 19 → t.length = 1 ∧ c.word.length < 1) : (c.fixed b t n).Nx p c.done.length := by
  unfold Cr.fixed
  split
  · exact .wrong
  · split
    · have := In.goOn (c := { c with word := [] }) (p := p) ⟨by have := h.w; show ((0 : Nat) : Int) ≤ _; omega, h.bl, h.hl, h.len, h.dt, h.line, h.st, h.s0, fun e => absurd e h1, fun e => absurd e h2, h.hn, fun _ => by show (0 : Nat) < 9; omega, fun _ => by show (0 : Nat) < 1; omega⟩ hp n hn hn1 (fun e => absurd e hn2) (fun e => absurd e hn3)
      exact this
    · rename_i hq
      exact h.add hp b h1 (fun e => absurd e h2) (fun e => by have := h3 e; omega) (fun e => by have := h4 e; omega)
theorem nx_feed (h : c.In p) (hp : c.pos = p) (k : Int) (k1 : k ≠ 0) (k2 : k ≠ 1) (k3 : k = 13 ∨ k = 16 → 0 < c.length) (k4 : ¬ (k = 9 ∨ k = 10)) : (c.feed b k).Nx p c.done.length := by
  unfold Cr.feed
  split
  · exact .wrong
  · exact h.goOn hp k k1 (fun e => absurd e k2) k3 (fun e => absurd e k4)
theorem nx_head (h : c.In p) (hp : c.pos = p) : (c.head b).Nx p c.done.length := by
  unfold Cr.head
  split
  · rename_i e
    exact nx_fixed h hp _ 1 (by omega) (fun _ => h.s0 e) (by omega) (by omega) (by omega) (by omega) (fun q => ⟨rfl, h.f0 q⟩) (fun q => by omega)
  split
  · rename_i e0 e
    obtain ⟨s1, s2, s3, s4⟩ := h.s1 e
    have hw := h.w
    have hb := h.bl
    have hl := h.line
    have hst := h.st
    unfold Cr.status
    split
    · rename_i hq
      have hd := isDig_bd hq.2
      have hx : (c.word ++ [b]).length = c.word.length + 1 := by simp
      simp only []
      split
      · exact .fail _ _ (by omega)
      · refine fun _ => ⟨hp, by show c.done.length ≤ _; omega, fun _ => ⟨by show ((c.word ++ [b]).length : Int) ≤ _; omega, by show (c.body.length : Int) ≤ _; omega, h.hl, h.len, h.dt, ⟨hl.1, by show c.line ≤ _; omega⟩, ⟨by show 0 ≤ c.m.status * 10 + ((b.toNat : Int) - 48); omega, by show c.m.status * 10 + ((b.toNat : Int) - 48) ≤ 999; omega⟩, fun e2 => absurd e2 e0, fun _ => ⟨by show (c.word ++ [b]).length ≤ 3; omega, fun e2 => ?_, fun e2 => ?_, fun e2 => ?_⟩, fun e2 => ?_, fun e2 => ?_, fun e2 => ?_, fun e2 => ?_⟩⟩
        · have e2 : (c.word ++ [b]).length = 0 := e2
          omega
        · have e2 : (c.word ++ [b]).length = 1 := e2
          show c.m.status * 10 + ((b.toNat : Int) - 48) ≤ 9
          omega
        · have e2 : (c.word ++ [b]).length = 2 := e2
          show c.m.status * 10 + ((b.toNat : Int) - 48) ≤ 99
          omega
        · have e2 : c.place = 9 ∨ c.place = 10 := e2
          omega
        · have e2 : c.place = 9 ∨ c.place = 10 := e2
          omega
        · have e2 : c.place = 0 ∨ c.place = 5 := e2
          omega
        · have e2 : c.place = 17 ∨ c.place = 19 := e2
          omega
    · split
      · exact h.goOn hp 2 (by omega) (by omega) (by omega) (by omega)
      · exact .wrong
  split
  · unfold Cr.reason
    split
    · exact In.goOn (c := { c with m := { c.m with reason := c.word } }) ⟨h.w, h.bl, h.hl, h.len, h.dt, h.line, h.st, h.s0, h.s1, h.ck, h.hn, h.f0, h.f1⟩ hp 6 (by omega) (by omega) (by omega) (by omega)
    · split
      · exact h.add hp b (by omega) (by omega) (by omega) (by omega)
      · exact .wrong
  split
  · unfold Cr.method
    split
    · exact In.goOn (c := { c with m := { c.m with meth := c.word } }) ⟨h.w, h.bl, h.hl, h.len, h.dt, h.line, h.st, h.s0, h.s1, h.ck, h.hn, h.f0, h.f1⟩ hp 4 (by omega) (by omega) (by omega) (by omega)
    · split
      · exact h.add hp b (by omega) (by omega) (by omega) (by omega)
      · exact .wrong
  split
  · unfold Cr.target
    split
    · exact In.goOn (c := { c with m := { c.m with targ := c.word } }) ⟨h.w, h.bl, h.hl, h.len, h.dt, h.line, h.st, h.s0, h.s1, h.ck, h.hn, h.f0, h.f1⟩ hp 5 (by omega) (by omega) (by omega) (by omega)
    · split
      · exact h.add hp b (by omega) (by omega) (by omega) (by omega)
      · exact .wrong
  split
  · rename_i e
    exact nx_fixed h hp _ 6 (by omega) (by omega) (by omega) (by omega) (by omega) (by omega) (fun q => ⟨rfl, h.f0 q⟩) (fun q => by omega)
  · exact nx_feed h hp 7 (by omega) (by omega) (by omega) (by omega)
theorem nx_trail (h : c.In p) (hp : c.pos = p) (g : Bool) : (c.trail b g).Nx p c.done.length := by
  unfold Cr.trail
  split
  · exact .wrong
  split
  · exact h.goOn hp 11 (by omega) (by omega) (by omega) (by omega)
  split
  · exact .wrong
  split
  · exact .fail _ _ (by omega)
  · exact fun _ => ⟨hp, by show c.done.length ≤ _; omega, fun _ => In.mono (c := { c with closed := true }) ⟨h.w, h.bl, h.hl, h.len, h.dt, h.line, h.st, h.s0, h.s1, h.ck, h.hn, h.f0, h.f1⟩ (by omega)⟩
end Cr
end Go.Proofs.YthfloagpmmohkaaGreatDoor
