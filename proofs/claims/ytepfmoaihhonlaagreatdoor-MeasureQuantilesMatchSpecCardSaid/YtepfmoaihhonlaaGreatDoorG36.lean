import Derived.Test.YtepfmoaihhonlaaGreatDoorG35
import Derived.Lib.ItoaNum
import Derived.Test.YtepfmoaihhonlaaGreatDoorG9
/- Package load: a line in memory. -/
namespace Go.Proofs.YtepfmoaihhonlaaGreatDoor
open Go Go.RowKit Go.Proofs

theorem NatR.keep {w w' : World} {A : Option Addr} {c : Nat} {l : List Nat} {x : Nat} (h : NatR w A c l x) (hs : w.heap.size ≤ w'.heap.size) (hk : ∀ b o, A = some ⟨b, o, none⟩ → b < w.heap.size → 0 < l.length → w'.heap[b]? = w.heap[b]?) : NatR w' A c l x :=
  ⟨⟨h.rd.1, fun hn => by
    obtain ⟨b, o, e, h1, h2, h3⟩ := h.rd.2 hn
    exact ⟨b, o, e, h1, by omega, fun j u hu => (World.cell?_of_block (hk b o e h2 hn)).trans (h3 j u hu)⟩⟩, h.norm, h.val, h.cap, h.max, h.nil⟩
/-- where a number lies -/
def Apart (P : Nat) (v1 v2 : Value) (A : Option Addr) (l : List Nat) : Prop := ∀ b o, A = some ⟨b, o, none⟩ → 0 < l.length → b ≠ P ∧ some b ≠ v1.ownBlock ∧ some b ≠ v2.ownBlock
/-- a line that is being made: its box P, the row v1 of beginnings, the row v2 of numbers -/
structure NL (w wr : World) (P : Nat) (v0 v1 v2 : Value) (bg : List Int) (vals : List Value) (xs : List Nat) : Prop where
  below : Below w.heap.size w wr
  hP : w.heap.size ≤ P
  box : wr.heap[P]? = some (.cells #[v0, v1, v2] 176 (0, 0))
  own1 : wr.ownsRow w.heap.size 3 1 v1 bg.length (ints bg)
  own2 : wr.ownsRow w.heap.size 93 1 v2 vals.length vals
  p1 : some P ≠ v1.ownBlock
  p2 : some P ≠ v2.ownBlock
  dis : ∀ b, some b = v1.ownBlock → some b ≠ v2.ownBlock
  len : vals.length = xs.length
  nat : ∀ (i : Nat) x, xs[i]? = some x → ∃ A c l, vals[i]? = some (.slice A l.length c) ∧ NatR wr A c l x ∧ Apart P v1 v2 A l
section
variable {w wr w' : World} {P : Nat} {v0 v1 v2 : Value} {bg : List Int} {vals : List Value} {xs : List Nat}
theorem NL.call (h : NL w wr P v0 v1 v2 bg vals xs) (hb : Below wr.heap.size wr w') : NL w w' P v0 v1 v2 bg vals xs where
  below := h.below.trans (hb.mono h.below.size)
  hP := h.hP
  box := (hb.block P (heap_lt h.box)).trans h.box
  own1 := ownsRow_fr h.own1 (Fr.of_below hb) (fun i hi hm => by have := (ownsRow_block h.own1 hi).2; omega)
  own2 := ownsRow_fr h.own2 (Fr.of_below hb) (fun i hi hm => by have := (ownsRow_block h.own2 hi).2; omega)
  p1 := h.p1
  p2 := h.p2
  dis := h.dis
  len := h.len
  nat := fun i x hx => by
    obtain ⟨A, c, l, h1, h2, h3⟩ := h.nat i x hx
    exact ⟨A, c, l, h1, h2.on hb, h3⟩
/-- a beginning is appended -/
theorem NL.app1 {g cap : Nat} {z : Int} (h : NL w wr P v0 v1 v2 bg vals xs) (hown : w'.ownsRow w.heap.size 3 1 (.slice (some ⟨g, 0, none⟩) (bg.length + 1) cap) (bg.length + 1) (ints bg ++ [.int .i64 z])) (hg : wr.grownBy w' v1.ownBlock) (hat : v1.ownBlock = some g ∨ g = wr.heap.size) :
    NL w (w'.setCell ⟨P, 1, none⟩ (.slice (some ⟨g, 0, none⟩) (bg.length + 1) cap)) P v0 (.slice (some ⟨g, 0, none⟩) (bg.length + 1) cap) v2 (bg ++ [z]) vals xs := by
  have hf := Fr.of_grown hg
  have hP := heap_lt h.box
  have hbox : w'.heap[P]? = some (.cells #[v0, v1, v2] 176 (0, 0)) := (hf.block P hP (fun e => h.p1 e)).trans h.box
  have hPg : P ≠ g := by
    rintro rfl
    rcases hat with e | e
    · exact h.p1 e.symm
    · omega
  have hg2 : ∀ b, some b = v2.ownBlock → b ≠ g := by
    rintro b hb rfl
    rcases hat with e | e
    · exact h.dis b e.symm hb
    · have := (ownsRow_block h.own2 hb).2; omega
  have hfs : Fr (fun i => i = P) w' (w'.setCell ⟨P, 1, none⟩ (.slice (some ⟨g, 0, none⟩) (bg.length + 1) cap)) := (Fr.refl (fun i => i = P) w').setCell (fun _ => rfl) _
  refine ⟨?_, h.hP, ?_, ?_, ?_, ?_, h.p2, ?_, h.len, ?_⟩
  · refine (h.below.trans (hf.below (B := w.heap.size) h.below.size (fun i hi hm => ?_))).setCell h.hP _
    have := (ownsRow_block h.own1 hm).1; omega
  · simp [World.setCell, Array.getElem?_modify, hbox]
  · have := ownsRow_fr hown hfs (fun i hi hm => by cases hi; exact hPg hm.symm)
    simpa [ints] using this
  · refine ownsRow_fr (ownsRow_fr h.own2 hf (fun i hi hm => h.dis i hm hi)) hfs (fun i hi hm => ?_)
    subst hm; exact h.p2 hi
  · intro e; cases e; exact hPg rfl
  · intro b hb hb2
    cases hb
    exact hg2 g hb2 rfl
  · intro i x hx
    obtain ⟨A, c, l, h1, h2, h3⟩ := h.nat i x hx
    refine ⟨A, c, l, h1, h2.keep (by have := hf.size; simpa [World.setCell] using this) (fun b o e hb hl => ?_), fun b o e hl => ?_⟩
    · obtain ⟨a1, a2, a3⟩ := h3 b o e hl
      exact (hfs.block b (by have := hf.size; omega) a1).trans (hf.block b hb (fun e => a2 e))
    · obtain ⟨a1, a2, a3⟩ := h3 b o e hl
      refine ⟨a1, ?_, a3⟩
      rcases hat with e' | e'
      · rw [show (Value.slice (some ⟨g, 0, none⟩) (bg.length + 1) cap).ownBlock = some g from rfl, ← e']; exact a2
      · intro e2
        cases e2
        obtain ⟨b', o', e3, _, hlt, _⟩ := h2.rd.2 hl
        rw [e] at e3; cases e3
        have hlt' : g < wr.heap.size := hlt
        omega
/-- a number is appended -/
theorem NL.app2 {g cap : Nat} {A : Option Addr} {c : Nat} {l : List Nat} {x : Nat} (h : NL w wr P v0 v1 v2 bg vals xs) (hx : NatR wr A c l x) (hap : Apart P v1 v2 A l)
    (hown : w'.ownsRow w.heap.size 93 1 (.slice (some ⟨g, 0, none⟩) (vals.length + 1) cap) (vals.length + 1) (vals ++ [.slice A l.length c])) (hg : wr.grownBy w' v2.ownBlock) (hat : v2.ownBlock = some g ∨ g = wr.heap.size) :
    NL w (w'.setCell ⟨P, 2, none⟩ (.slice (some ⟨g, 0, none⟩) (vals.length + 1) cap)) P v0 v1 (.slice (some ⟨g, 0, none⟩) (vals.length + 1) cap) bg (vals ++ [.slice A l.length c]) (xs ++ [x]) := by
  have hf := Fr.of_grown hg
  have hP := heap_lt h.box
  have hbox : w'.heap[P]? = some (.cells #[v0, v1, v2] 176 (0, 0)) := (hf.block P hP (fun e => h.p2 e)).trans h.box
  have hPg : P ≠ g := by
    rintro rfl
    rcases hat with e | e
    · exact h.p2 e.symm
    · omega
  have hg1 : ∀ b, some b = v1.ownBlock → b ≠ g := by
    rintro b hb rfl
    rcases hat with e | e
    · exact h.dis b hb e.symm
    · have := (ownsRow_block h.own1 hb).2; omega
  have hfs : Fr (fun i => i = P) w' (w'.setCell ⟨P, 2, none⟩ (.slice (some ⟨g, 0, none⟩) (vals.length + 1) cap)) := (Fr.refl (fun i => i = P) w').setCell (fun _ => rfl) _
  have key : ∀ (A : Option Addr) (c : Nat) (l : List Nat) (x : Nat), NatR wr A c l x → Apart P v1 v2 A l → NatR (w'.setCell ⟨P, 2, none⟩ (.slice (some ⟨g, 0, none⟩) (vals.length + 1) cap)) A c l x ∧ Apart P v1 (.slice (some ⟨g, 0, none⟩) (vals.length + 1) cap) A l := by
    intro A c l x h2 h3
    refine ⟨h2.keep (by have := hf.size; simpa [World.setCell] using this) (fun b o e hb hl => ?_), fun b o e hl => ?_⟩
    · obtain ⟨a1, a2, a3⟩ := h3 b o e hl
      exact (hfs.block b (by have := hf.size; omega) a1).trans (hf.block b hb (fun e => a3 e))
    · obtain ⟨a1, a2, a3⟩ := h3 b o e hl
      refine ⟨a1, a2, ?_⟩
      rcases hat with e' | e'
      · rw [show (Value.slice (some ⟨g, 0, none⟩) (vals.length + 1) cap).ownBlock = some g from rfl, ← e']; exact a3
      · intro e2
        cases e2
        obtain ⟨b', o', e3, _, hlt, _⟩ := h2.rd.2 hl
        rw [e] at e3; cases e3
        have hlt' : g < wr.heap.size := hlt
        omega
  refine ⟨?_, h.hP, ?_, ?_, ?_, h.p1, ?_, ?_, ?_, ?_⟩
  · refine (h.below.trans (hf.below (B := w.heap.size) h.below.size (fun i hi hm => ?_))).setCell h.hP _
    have := (ownsRow_block h.own2 hm).1; omega
  · simp [World.setCell, Array.getElem?_modify, hbox]
  · refine ownsRow_fr (ownsRow_fr h.own1 hf (fun i hi hm => h.dis i hi hm)) hfs (fun i hi hm => ?_)
    subst hm; exact h.p1 hi
  · have := ownsRow_fr hown hfs (fun i hi hm => by cases hi; exact hPg hm.symm)
    simpa using this
  · intro e; cases e; exact hPg rfl
  · intro b hb hb2
    cases hb2
    exact hg1 g hb rfl
  · simp [h.len]
  · intro i y hy
    rw [List.getElem?_append] at hy
    split at hy
    · rename_i hi
      obtain ⟨A', c', l', h1, h2, h3⟩ := h.nat i y hy
      exact ⟨A', c', l', by rw [List.getElem?_append_left (by rw [h.len]; exact hi)]; exact h1, key A' c' l' y h2 h3⟩
    · rename_i hi
      rw [List.getElem?_singleton] at hy
      split at hy
      · rename_i hz
        have hy := Option.some.inj hy
        subst hy
        refine ⟨A, c, l, ?_, key A c l x hx hap⟩
        rw [List.getElem?_append_right (by rw [h.len]; omega), h.len, hz]
        rfl
      · cases hy
end
/-- a line in memory -/
structure LineR (w : World) (P : Nat) (A : Option Addr) (c : Nat) (l : List (Int × Int × Int)) : Prop where
  lt : P < w.heap.size
  ex : ∃ v1 v2 A1 c1 A2 c2, v1 = .slice A1 l.length c1 ∧ v2 = .slice A2 (l.length + 1) c2 ∧ w.heap[P]? = some (.cells #[.slice A l.length c, v1, v2] 176 (0, 0)) ∧
    Rd w 0 w.heap.size 1 A1 l.length (ints ((List.range l.length).map fun i => lenS (l.take i))) ∧
    ∃ b o, A2 = some ⟨b, o, none⟩ ∧ b < w.heap.size ∧ ∀ i, i ≤ l.length → ∃ A3 c3 l3, w.cell? ⟨b, o + i, none⟩ = some (.slice A3 l3.length c3) ∧ NatR w A3 c3 l3 (sumP ((stgs l).take i))
  st : Rd w 0 w.heap.size 3 A l.length (cells3 l)
theorem LineR.on {w w' : World} {P : Nat} {A : Option Addr} {c : Nat} {l : List (Int × Int × Int)} (h : LineR w P A c l) (hb : Below w.heap.size w w') : LineR w' P A c l := by
  refine ⟨by have := h.lt; have := hb.size; omega, ?_, h.st.old hb⟩
  obtain ⟨v1, v2, A1, c1, A2, c2, e1, e2, hx, h1, b, o, e3, hlt, h2⟩ := h.ex
  refine ⟨v1, v2, A1, c1, A2, c2, e1, e2, (hb.block P h.lt).trans hx, h1.old hb, b, o, e3, by have := hb.size; omega, fun i hi => ?_⟩
  obtain ⟨A3, c3, l3, q1, q2⟩ := h2 i hi
  exact ⟨A3, c3, l3, (hb.cell hlt).trans q1, q2.on hb⟩
end Go.Proofs.YtepfmoaihhonlaaGreatDoor

/- The decimal digits of a number, chunk by chunk: plain. -/
namespace Go.Proofs.YtepfmoaihhonlaaGreatDoor
open Go Go.Lib

theorem dec_small {u : Nat} (h : u < 10) : decDigits u = [UInt8.ofNat (48 + u)] := by rw [decDigits, dif_pos h]
theorem dec_big {u : Nat} (h : ¬ u < 10) : decDigits u = decDigits (u / 10) ++ [UInt8.ofNat (48 + u % 10)] := by rw [decDigits, dif_neg h]
/-- k digits, with zeros ahead -/
def pad (k v : Nat) : List UInt8 := List.replicate (k - (decDigits v).length) 48 ++ decDigits v
theorem dec_len_pos (v : Nat) : 1 ≤ (decDigits v).length := by rw [decDigits_length]; exact nDigits_pos v
theorem pad_one {v : Nat} (h : v < 10) : pad 1 v = [UInt8.ofNat (48 + v)] := by unfold pad; rw [dec_small h]; rfl
theorem pad_succ {k : Nat} (hk : 1 ≤ k) (v : Nat) : pad (k + 1) v = pad k (v / 10) ++ [UInt8.ofNat (48 + v % 10)] := by
  unfold pad
  by_cases h : v < 10
  · rw [dec_small h, Nat.div_eq_of_lt h, Nat.mod_eq_of_lt h, dec_small (show 0 < 10 by omega)]
    simp only [List.length_singleton, Nat.add_sub_cancel]
    obtain ⟨j, rfl⟩ : ∃ j, k = j + 1 := ⟨k - 1, by omega⟩
    rw [Nat.add_sub_cancel, List.replicate_succ']
    rfl
  · rw [dec_big h, List.length_append, List.length_singleton, Nat.add_sub_add_right, List.append_assoc]
theorem dec_chunk : ∀ (k u v : Nat), 1 ≤ k → 1 ≤ u → v < 10 ^ k → decDigits (v + 10 ^ k * u) = decDigits u ++ pad k v
  | 0, _, _, h, _, _ => by omega
  | 1, u, v, _, hu, hv => by
    have hv' : v < 10 := by simpa using hv
    rw [pad_one hv', dec_big (by omega)]
    congr 2
    · congr 1; omega
    · congr 2; omega
  | k + 2, u, v, _, hu, hv => by
    have hp : 0 < 10 ^ (k + 1) := Nat.pow_pos (by omega)
    have e : 10 ^ (k + 2) * u = 10 * (10 ^ (k + 1) * u) := by rw [Nat.pow_succ 10 (k + 1), Nat.mul_comm (10 ^ (k + 1)) 10, Nat.mul_assoc]
    have hq : 1 ≤ 10 ^ (k + 1) * u := Nat.mul_pos hp hu
    have hv2 : v / 10 < 10 ^ (k + 1) := by
      rw [Nat.div_lt_iff_lt_mul (by omega), ← Nat.pow_succ]; exact hv
    rw [pad_succ (by omega), ← List.append_assoc, ← dec_chunk (k + 1) u (v / 10) (by omega) hu hv2, dec_big (by omega), e]
    congr 2
    · congr 1; omega
    · congr 2; omega
theorem dec_le {v k : Nat} (hk : 1 ≤ k) (h : v < 10 ^ k) : (decDigits v).length ≤ k := by
  rw [decDigits_length]
  rcases Nat.lt_or_ge k (nDigits v) with h' | h'
  · exfalso
    obtain ⟨j, hj⟩ : ∃ j, nDigits v = j + 2 := ⟨nDigits v - 2, by omega⟩
    have h3 : 10 ^ (j + 1) ≤ v := by
      clear h h'
      revert hj
      induction j generalizing v with
      | zero =>
        intro hj
        rcases Nat.lt_or_ge v 10 with h | h
        · rw [nDigits_small h] at hj; omega
        · simpa using h
      | succ j ih =>
        intro hj
        rcases Nat.lt_or_ge v 10 with h | h
        · rw [nDigits_small h] at hj; omega
        · rw [nDigits_big (by omega)] at hj
          have := ih (v := v / 10) (by omega)
          have e : 10 ^ (j + 1 + 1) = 10 * 10 ^ (j + 1) := by rw [Nat.pow_succ, Nat.mul_comm]
          omega
    have h4 : 10 ^ k ≤ 10 ^ (j + 1) := Nat.pow_le_pow_right (by omega) (by omega)
    omega
  · exact h'
theorem pad_length {k v : Nat} (hk : 1 ≤ k) (h : v < 10 ^ k) : (pad k v).length = k := by
  have := dec_le hk h
  unfold pad
  rw [List.length_append, List.length_replicate]; omega
theorem itoa_nat (n : Nat) : itoa (n : Int) = decDigits n := by unfold itoa; rw [if_neg (by omega)]; simp
end Go.Proofs.YtepfmoaihhonlaaGreatDoor
