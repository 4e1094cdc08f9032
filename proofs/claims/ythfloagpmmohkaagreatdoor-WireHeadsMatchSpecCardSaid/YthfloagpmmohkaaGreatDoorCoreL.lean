/- wire's reader of messages: the state keeps within its bounds: lines of the head, bodies, a byte, a text. No program in sight. -/
import Derived.Test.YthfloagpmmohkaaGreatDoorCoreK
namespace Go.Proofs.YthfloagpmmohkaaGreatDoor
open Go
namespace Cr
variable {c : Cr} {b : UInt8} {p : Int} {d : Nat}
theorem fail_keep (a n : Int) (h : c.no ≠ 0) : c.fail a n = c := by unfold Cr.fail; rw [if_neg h]
theorem digB_or : c.digB b = c ∨ (c.digB b).no ≠ 0 := by
  unfold Cr.digB
  split
  · exact .inr (fail_no _ _ (by omega))
  · exact .inl rfl
theorem digC_or : c.digC = c ∨ c.digC.no ≠ 0 := by
  unfold Cr.digC
  split
  · exact .inr (fail_no _ _ (by omega))
  · exact .inl rfl
theorem digC_no (h : c.no ≠ 0) : c.digC.no ≠ 0 := by
  unfold Cr.digC
  split
  · rw [fail_keep _ _ h]; exact h
  · exact h
theorem digE_no (k : Int) (h : c.no ≠ 0) : (c.digE k).no ≠ 0 := by
  unfold Cr.digE
  split
  · rw [fail_keep _ _ h]; exact h
  · exact h
theorem In.digA (h : c.In p) (h0 : ¬ (c.place = 13 ∨ c.place = 16)) : c.digA.In p := by
  unfold Cr.digA
  split
  · exact ⟨h.w, h.bl, h.hl, ⟨by show (0 : Int) ≤ 0; omega, by show (0 : Int) ≤ 1000000; omega⟩, fun e => absurd e h0, h.line, h.st, h.s0, h.s1, h.ck, h.hn, h.f0, h.f1⟩
  · exact h
theorem digA_eqs2 (c : Cr) : c.digA.place = c.place ∧ c.digA.kind = c.kind ∧ c.digA.done = c.done ∧ c.digA.word = c.word ∧ c.digA.pos = c.pos ∧ c.digA.body = c.body := by
  unfold Cr.digA
  split <;> exact ⟨rfl, rfl, rfl, rfl, rfl, rfl⟩
/-- a digit of a number -/
theorem In.digDE (h : c.In p) (hp : c.pos = p) (h0 : c.place = 10 ∨ c.place = 14) (hk : c.place = 10 → c.kind = 1) (m e k : Int) (hm : 0 ≤ m) (he : 0 ≤ e) (hk0 : 0 ≤ k) : ((c.digD b m e).digE k).Nx p c.done.length := by
  unfold Cr.digE
  split
  · exact .fail _ _ (by omega)
  · rename_i hq
    have hq : ¬ 1000000 < k + (c.length * m + e) := hq
    have hw := h.w
    have hb := h.bl
    have hl := h.line
    have hx : (c.word ++ [b]).length = c.word.length + 1 := by simp
    have h9 := Int.mul_nonneg h.len.1 hm
    refine fun _ => ⟨hp, by show c.done.length ≤ _; omega, fun _ => ⟨by show ((c.word ++ [b]).length : Int) ≤ _; omega, by show (c.body.length : Int) ≤ _; omega, h.hl, ⟨by show 0 ≤ c.length * m + e; omega, by show c.length * m + e ≤ 1000000; omega⟩, fun q => ?_, ⟨hl.1, by show c.line ≤ _; omega⟩, h.st, h.s0, fun q => ?_, fun q q2 => ?_, h.hn, fun q => ?_, fun q => ?_⟩⟩
    · have q : c.place = 13 ∨ c.place = 16 := q
      omega
    · have q : c.place = 1 := q
      omega
    · have q : c.place = 9 ∨ c.place = 10 := q
      have q2 : c.kind = 2 := q2
      have := hk (by omega)
      omega
    · have q : c.place = 0 ∨ c.place = 5 := q
      omega
    · have q : c.place = 17 ∨ c.place = 19 := q
      omega
theorem nx_digit (h : c.In p) (hp : c.pos = p) (h0 : c.place = 10) (hk : c.kind = 1) : (c.digit b).Nx p c.done.length := by
  unfold Cr.digit
  split
  · exact nx_trail h hp _
  split
  · exact .wrong
  rename_i hq _
  have hd : isDig b = true := by
    cases hd : isDig b with
    | true => rfl
    | false => exact absurd (.inl (by rw [hd]; rfl)) hq
  have hd := isDig_bd hd
  rcases digB_or (c := c.digA) (b := b) with e1 | e1
  · rw [e1]
    rcases digC_or (c := c.digA) with e2 | e2
    · rw [e2]
      obtain ⟨a1, a2, a3, a4, a5, a6⟩ := digA_eqs2 c
      have := (h.digA (by omega)).digDE (b := b) (a5.trans hp) (.inl (a1.trans h0)) (fun _ => a2.trans hk) 10 ((b.toNat : Int) - 48) 0 (by omega) hd.1 (by omega)
      rw [a3] at this
      exact this
    · exact .bad (digE_no _ e2)
  · exact .bad (digE_no _ (digC_no e1))
theorem nx_chunked (h : c.In p) (hp : c.pos = p) (h0 : c.place = 10) (hk : c.kind = 2) : (c.chunked b).Nx p c.done.length := by
  have h7 := h.ck (.inr h0) hk
  unfold Cr.chunked
  split
  · exact nx_trail h hp _
  split
  · exact .wrong
  rename_i h8 _
  rcases digC_or (c := c) with e2 | e2
  · rw [e2]
    exact h.add hp b (by omega) (fun _ _ => by omega) (by omega) (by omega)
  · exact .bad e2
theorem nx_value (h : c.In p) (hp : c.pos = p) (h0 : c.place = 10) : (c.value b).Nx p c.done.length := by
  unfold Cr.value
  split
  · exact nx_digit h hp h0 (by assumption)
  split
  · exact nx_chunked h hp h0 (by assumption)
  rename_i k1 k2
  split
  · have hne := h.hn (.inr h0) k1 k2
    have hhl : (c.setVal).m.head.length = c.m.head.length := by
      unfold Cr.setVal
      cases hg : c.m.head.getLast? with
      | none => exact absurd (List.getLast?_eq_none_iff.1 hg) hne
      | some x =>
        have := List.length_pos_iff.2 hne
        show (c.m.head.dropLast ++ [_]).length = _
        simp
        omega
    exact In.goOn (c := c.setVal) ⟨h.w, h.bl, by rw [hhl]; exact h.hl, h.len, h.dt, h.line, h.st, h.s0, h.s1, h.ck, fun _ _ _ e => by rw [e] at hhl; exact hne (List.eq_nil_of_length_eq_zero hhl.symm), h.f0, h.f1⟩ hp 11 (by omega) (by omega) (by omega) (by omega)
  split
  · exact .wrong
  split
  · exact .fail _ _ (by omega)
  · exact h.add hp b (by omega) (fun _ q => absurd q k2) (by omega) (by omega)
theorem nmK_cases (c : Cr) : c.nmK = 0 ∨ c.nmK = 1 ∨ c.nmK = 2 := by
  unfold Cr.nmK
  split
  · exact .inr (.inl rfl)
  split
  · exact .inr (.inr rfl)
  · exact .inl rfl
theorem nmB_or : c.nmB = c ∨ c.nmB.no ≠ 0 := by
  unfold Cr.nmB
  split
  · exact .inr (fail_no _ _ (by omega))
  · exact .inl rfl
theorem nmD_or : c.nmD = c ∨ c.nmD.no ≠ 0 := by
  unfold Cr.nmD
  split
  · exact .inr (fail_no _ _ (by omega))
  · exact .inl rfl
theorem nmD_no (h : c.no ≠ 0) : c.nmD.no ≠ 0 := by
  unfold Cr.nmD
  split
  · rw [fail_keep _ _ h]; exact h
  · exact h
theorem nx_named (h : c.In p) (hp : c.pos = p) : (c.named).Nx p c.done.length := by
  unfold Cr.named
  by_cases hk : c.nmK = 0
  · unfold Cr.nmE
    rw [if_pos hk]
    unfold Cr.nmA
    rw [if_pos hk]
    split
    · refine .bad ?_
      show (({ c with kind := 0 } : Cr).fail c.line 3).no ≠ 0
      exact fail_no _ _ (by omega)
    · rename_i h9
      have := h.hl
      have hx : (c.m.head ++ [(c.word, ([] : List UInt8))]).length = c.m.head.length + 1 := by simp
      refine fun _ => ⟨hp, by show c.done.length ≤ _; omega, fun _ => ⟨?_, ?_, ?_, h.len, fun q => ?_, ⟨h.line.1, by have := h.line.2; show c.line ≤ _; omega⟩, h.st, fun q => ?_, fun q => ?_, fun _ _ => by show (0 : Nat) ≤ 7; omega, fun _ _ _ => ?_, fun _ => by show (0 : Nat) < 9; omega, fun _ => by show (0 : Nat) < 1; omega⟩⟩
      · have := h.w; show ((0 : Nat) : Int) ≤ _; omega
      · have := h.bl; show (c.body.length : Int) ≤ _; omega
      · show (c.m.head ++ [(c.word, ([] : List UInt8))]).length ≤ 100; omega
      · have q : (9 : Int) = 13 ∨ (9 : Int) = 16 := q
        omega
      · have q : (9 : Int) = 0 := q
        omega
      · have q : (9 : Int) = 1 := q
        omega
      · show c.m.head ++ [(c.word, ([] : List UInt8))] ≠ []
        simp
  · unfold Cr.nmE
    rw [if_neg hk]
    unfold Cr.nmA
    rw [if_neg hk]
    rcases nmB_or (c := { c with kind := c.nmK }) with e1 | e1
    · rw [e1]
      rcases nmD_or (c := ({ c with kind := c.nmK } : Cr).nmC c.nmK) with e2 | e2
      · rw [e2]
        refine fun _ => ⟨hp, by show c.done.length ≤ _; omega, fun _ => ⟨?_, ?_, h.hl, h.len, fun q => ?_, ⟨h.line.1, by have := h.line.2; show c.line ≤ _; omega⟩, h.st, fun q => ?_, fun q => ?_, fun _ _ => by show (0 : Nat) ≤ 7; omega, fun _ q1 q2 => ?_, fun _ => by show (0 : Nat) < 9; omega, fun _ => by show (0 : Nat) < 1; omega⟩⟩
        · have := h.w; show ((0 : Nat) : Int) ≤ _; omega
        · have := h.bl; show (c.body.length : Int) ≤ _; omega
        · have q : (9 : Int) = 13 ∨ (9 : Int) = 16 := q
          omega
        · have q : (9 : Int) = 0 := q
          omega
        · have q : (9 : Int) = 1 := q
          omega
        · have q1 : ¬ c.nmK = 1 := q1
          have q2 : ¬ c.nmK = 2 := q2
          have := nmK_cases c
          omega
      · refine .bad ?_
        show (({ c with kind := c.nmK } : Cr).nmC c.nmK).nmD.no ≠ 0
        exact e2
    · refine .bad ?_
      show ((({ c with kind := c.nmK } : Cr).nmB).nmC c.nmK).nmD.no ≠ 0
      exact nmD_no (by exact e1)
theorem nx_name (h : c.In p) (hp : c.pos = p) (h0 : c.place = 8) : (c.name b).Nx p c.done.length := by
  unfold Cr.name
  split
  · exact h.goOn hp 12 (by omega) (by omega) (by omega) (by omega)
  split
  · exact nx_named h hp
  split
  · exact .wrong
  · exact h.add hp b (by omega) (by omega) (by omega) (by omega)
theorem nx_headed (h : c.In p) (hp : c.pos = p) (k : Int) : ((c.goOn k).headed).Nx p c.done.length := by
  unfold Cr.headed
  split
  · exact h.goOn hp 14 (by omega) (by omega) (by omega) (by omega)
  split
  · rename_i hq
    exact h.goOn hp 13 (by omega) (by omega) (fun _ => hq.2) (by omega)
  · exact fun _ => ⟨hp, by show (c.done ++ [_]).length ≤ _; simp, fun e => by cases e⟩
theorem nx_pair (h : c.In p) (hp : c.pos = p) (hp0 : 0 ≤ p) (hno : c.no = 0) : (c.pair b).Nx p c.done.length := by
  unfold Cr.pair
  split
  · rename_i e
    exact nx_name (c := { c with line := c.pos, place := 8 }) ⟨h.w, h.bl, h.hl, h.len, fun q => by have q : (8 : Int) = 13 ∨ (8 : Int) = 16 := q; omega, ⟨by show 0 ≤ c.pos; omega, by show c.pos ≤ p; omega⟩, h.st, fun q => by have q : (8 : Int) = 0 := q; omega, fun q => by have q : (8 : Int) = 1 := q; omega, fun q => by have q : (8 : Int) = 9 ∨ (8 : Int) = 10 := q; omega, fun q => by have q : (8 : Int) = 9 ∨ (8 : Int) = 10 := q; omega, fun q => by have q : (8 : Int) = 0 ∨ (8 : Int) = 5 := q; omega, fun q => by have q : (8 : Int) = 17 ∨ (8 : Int) = 19 := q; omega⟩ hp rfl
  split
  · exact nx_name h hp (by assumption)
  split
  · rename_i e
    split
    · exact nx_value (c := { c with place := 10 }) ⟨h.w, h.bl, h.hl, h.len, fun q => by have q : (10 : Int) = 13 ∨ (10 : Int) = 16 := q; omega, h.line, h.st, fun q => by have q : (10 : Int) = 0 := q; omega, fun q => by have q : (10 : Int) = 1 := q; omega, fun _ => h.ck (.inl e), fun _ => h.hn (.inl e), fun q => by have q : (10 : Int) = 0 ∨ (10 : Int) = 5 := q; omega, fun q => by have q : (10 : Int) = 17 ∨ (10 : Int) = 19 := q; omega⟩ hp rfl
    · split
      · exact .fail _ _ (by omega)
      · exact h.self hp
  split
  · exact nx_value h hp (by assumption)
  split
  · exact nx_feed h hp 7 (by omega) (by omega) (by omega) (by omega)
  · simp only []
    unfold Cr.feed
    split
    · rw [if_neg wrong_no]
      exact .wrong
    · rw [if_pos (by exact hno)]
      exact nx_headed h hp 12
theorem nx_data (h : c.In p) (hp : c.pos = p) (h0 : c.place = 13 ∨ c.place = 16) : (c.data b).Nx p c.done.length := by
  have hdt := h.dt h0
  have hx : (c.body ++ [b]).length = c.body.length + 1 := by simp
  have hw := h.w
  have hb := h.bl
  have hl := h.line
  have hlen := h.len
  unfold Cr.data
  simp only []
  split
  · rename_i hq
    refine fun _ => ⟨hp, by show c.done.length ≤ _; omega, fun _ => ⟨by show (c.word.length : Int) ≤ _; omega, by show ((c.body ++ [b]).length : Int) ≤ _; omega, h.hl, ⟨by show 0 ≤ c.length - 1; omega, by show c.length - 1 ≤ 1000000; omega⟩, fun _ => hq, ⟨hl.1, by show c.line ≤ _; omega⟩, h.st, h.s0, h.s1, h.ck, h.hn, h.f0, h.f1⟩⟩
  split
  · rename_i hq
    refine fun _ => ⟨hp, by show c.done.length ≤ _; omega, fun _ => ⟨by show ((0 : Nat) : Int) ≤ _; omega, by show ((c.body ++ [b]).length : Int) ≤ _; omega, h.hl, ⟨by show 0 ≤ c.length - 1; omega, by show c.length - 1 ≤ 1000000; omega⟩, fun q => by have q : (17 : Int) = 13 ∨ (17 : Int) = 16 := q; omega, ⟨hl.1, by show c.line ≤ _; omega⟩, h.st, fun q => by have q : (17 : Int) = 0 := q; omega, fun q => by have q : (17 : Int) = 1 := q; omega, fun q => by have q : (17 : Int) = 9 ∨ (17 : Int) = 10 := q; omega, fun q => by have q : (17 : Int) = 9 ∨ (17 : Int) = 10 := q; omega, fun _ => by show (0 : Nat) < 9; omega, fun _ => by show (0 : Nat) < 1; omega⟩⟩
  · exact fun _ => ⟨hp, by show (c.done ++ [_]).length ≤ _; simp, fun e => by cases e⟩
theorem nx_size (h : c.In p) (hp : c.pos = p) (h0 : c.place = 14) : (c.size b).Nx p c.done.length := by
  unfold Cr.size
  split
  · exact In.self (c := { c with place := 15 }) ⟨h.w, h.bl, h.hl, h.len, fun q => by have q : (15 : Int) = 13 ∨ (15 : Int) = 16 := q; omega, h.line, h.st, fun q => by have q : (15 : Int) = 0 := q; omega, fun q => by have q : (15 : Int) = 1 := q; omega, fun q => by have q : (15 : Int) = 9 ∨ (15 : Int) = 10 := q; omega, fun q => by have q : (15 : Int) = 9 ∨ (15 : Int) = 10 := q; omega, fun q => by have q : (15 : Int) = 0 ∨ (15 : Int) = 5 := q; omega, fun q => by have q : (15 : Int) = 17 ∨ (15 : Int) = 19 := q; omega⟩ hp
  split
  · exact .wrong
  · rename_i hq
    have hx : 0 ≤ hexV b := by
      refine Int.not_lt.1 (fun q => hq (.inl q))
    obtain ⟨a1, a2, a3, a4, a5, a6⟩ := digA_eqs2 c
    have := (h.digA (by omega)).digDE (b := b) (a5.trans hp) (.inr (a1.trans h0)) (fun q => by omega) 16 (hexV b) c.body.length (by omega) hx (by omega)
    rw [a3] at this
    exact this
theorem nx_content (h : c.In p) (hp : c.pos = p) (hno : c.no = 0) : (c.content b).Nx p c.done.length := by
  unfold Cr.content
  split
  · exact nx_data h hp (by assumption)
  split
  · exact nx_size h hp (by assumption)
  split
  · split
    · exact nx_feed h hp 19 (by omega) (by omega) (by omega) (by omega)
    · have := h.len
      exact nx_feed h hp 16 (by omega) (by omega) (by omega) (by omega)
  split
  · exact nx_fixed h hp _ 18 (by omega) (by omega) (by omega) (by omega) (by omega) (by omega) (by omega) (fun q => ⟨rfl, h.f1 q⟩)
  split
  · exact nx_feed h hp 14 (by omega) (by omega) (by omega) (by omega)
  split
  · exact nx_fixed h hp _ 20 (by omega) (by omega) (by omega) (by omega) (by omega) (by omega) (by omega) (fun q => ⟨rfl, h.f1 q⟩)
  · simp only []
    unfold Cr.feed
    split
    · rw [if_neg wrong_no]
      exact .wrong
    · rw [if_pos (by exact hno)]
      exact fun _ => ⟨hp, by show (c.done ++ [_]).length ≤ _; simp, fun e => by cases e⟩
/-- between two bytes -/
structure Inv (c : Cr) : Prop where
  pos : 0 ≤ c.pos
  done : (c.done.length : Int) ≤ c.pos
  inn : c.begun = true → c.In c.pos
theorem begun_in (hp : 0 ≤ c.pos) : ({ c.begin_ with begun := true } : Cr).In c.pos := by
  unfold Cr.begin_
  cases hr : c.req with
  | true => exact ⟨by show ((0 : Nat) : Int) ≤ _; omega, by show ((0 : Nat) : Int) ≤ _; omega, by show (0 : Nat) ≤ 100; omega, ⟨by show (0 : Int) ≤ 0; omega, by show (0 : Int) ≤ 1000000; omega⟩, fun q => by have q : (3 : Int) = 13 ∨ (3 : Int) = 16 := q; omega, ⟨by show (0 : Int) ≤ 0; omega, hp⟩, ⟨by show (0 : Int) ≤ 0; omega, by show (0 : Int) ≤ 999; omega⟩, fun _ => rfl, fun q => by have q : (3 : Int) = 1 := q; omega, fun q => by have q : (3 : Int) = 9 ∨ (3 : Int) = 10 := q; omega, fun q => by have q : (3 : Int) = 9 ∨ (3 : Int) = 10 := q; omega, fun _ => by show (0 : Nat) < 9; omega, fun _ => by show (0 : Nat) < 1; omega⟩
  | false => exact ⟨by show ((0 : Nat) : Int) ≤ _; omega, by show ((0 : Nat) : Int) ≤ _; omega, by show (0 : Nat) ≤ 100; omega, ⟨by show (0 : Int) ≤ 0; omega, by show (0 : Int) ≤ 1000000; omega⟩, fun q => by have q : (0 : Int) = 13 ∨ (0 : Int) = 16 := q; omega, ⟨by show (0 : Int) ≤ 0; omega, hp⟩, ⟨by show (0 : Int) ≤ 0; omega, by show (0 : Int) ≤ 999; omega⟩, fun _ => rfl, fun q => by have q : (0 : Int) = 1 := q; omega, fun q => by have q : (0 : Int) = 9 ∨ (0 : Int) = 10 := q; omega, fun q => by have q : (0 : Int) = 9 ∨ (0 : Int) = 10 := q; omega, fun _ => by show (0 : Nat) < 9; omega, fun _ => by show (0 : Nat) < 1; omega⟩
/-- the state that a byte meets -/
def ready (c : Cr) : Cr := if c.begun then c else { c.begin_ with begun := true }
def step (c : Cr) (b : UInt8) : Cr := if c.place ≤ 6 then c.head b else if c.place ≤ 12 then c.pair b else c.content b
theorem take_eq : c.take b = { (c.ready.step b) with pos := (c.ready.step b).pos + 1 } := rfl
theorem ready_in (h : c.Inv) (hno : c.no = 0) : c.ready.In c.pos ∧ c.ready.begun = true ∧ c.ready.pos = c.pos ∧ c.ready.done = c.done ∧ c.ready.no = 0 := by
  unfold Cr.ready
  split
  · exact ⟨h.inn (by assumption), by assumption, rfl, rfl, hno⟩
  · exact ⟨begun_in h.pos, rfl, rfl, rfl, rfl⟩
theorem In.fit (h : c.In p) (hp : c.pos = p) (h0 : 0 ≤ p) (h1 : p ≤ 4000000) (hd : (c.done.length : Int) ≤ p) : c.Fit := by
  have a1 := h.w
  have a2 := h.bl
  have a3 := h.hl
  have a4 := h.len
  have a5 := h.line
  have a6 := h.st
  exact ⟨by omega, by omega, by omega, by omega, by omega, h.ck, h.hn, by omega, by omega, by omega, h.f0, h.f1⟩
theorem take_inv (h : c.Inv) (hno : c.no = 0) (hn : (c.take b).no = 0) : (c.take b).Inv ∧ (c.take b).pos = c.pos + 1 := by
  obtain ⟨h1, h2, h3, h4, h5⟩ := ready_in h hno
  rw [take_eq] at hn ⊢
  have key : (c.ready.step b).Nx c.pos c.done.length := by
    rw [← h4]
    unfold Cr.step
    split
    · exact nx_head h1 h3
    split
    · exact nx_pair h1 h3 h.pos h5
    · exact nx_content h1 h3 h5
  obtain ⟨k1, k2, k3⟩ := key hn
  have := h.done
  have := h.pos
  refine ⟨⟨by show 0 ≤ (c.ready.step b).pos + 1; omega, by show ((c.ready.step b).done.length : Int) ≤ (c.ready.step b).pos + 1; omega, fun hb => ?_⟩, by show (c.ready.step b).pos + 1 = _; omega⟩
  have h9 := k3 hb
  show Cr.In _ ((c.ready.step b).pos + 1)
  rw [k1]
  exact ⟨h9.w, h9.bl, h9.hl, h9.len, h9.dt, h9.line, h9.st, h9.s0, h9.s1, h9.ck, h9.hn, h9.f0, h9.f1⟩
theorem new_inv (r : Bool) : ({ req := r } : Cr).Inv := ⟨by show (0 : Int) ≤ 0; omega, by show ((0 : Nat) : Int) ≤ 0; omega, fun e => by cases e⟩
theorem run_bad (c : Cr) (l : List UInt8) (h : c.no ≠ 0) : c.run l = c := by
  cases l with
  | nil => rfl
  | cons y l => simp only [Cr.run, if_neg h]
end Cr
end Go.Proofs.YthfloagpmmohkaaGreatDoor
