import Derived.Test.YthfloagpmmohkaaGreatDoorCoreM
import Derived.Test.YthfloagpmmohkaaGreatDoorMem
import Derived.Test.YthfloagpmmohkaaGreatDoorShelf
import Derived.Test.YthfloagpmmohkaaGreatDoorProg
import Derived.Handy
import Derived.WalkSpells
import Derived.WalkLawsBesides
import Derived.Deep.QuietTactic
import Derived.BigQuiet
/- wire's tests on bytes. Printed by wip/gen_byte.py. -/
namespace Go.Proofs.YthfloagpmmohkaaGreatDoor
open Go Go.RowKit Go.Proofs

theorem ret_bool {x y : Bool} (h : x = true ↔ y = true) : Ending.returned (.bool x) = .returned (.bool y) := by rw [Bool.eq_iff_iff.2 h]
set_option maxHeartbeats 1000000 in
set_option maxRecDepth 100000 in
theorem isSmall_any (b : UInt8) (w : World) : Calls Tryz.prog 39 #[.int .u8 (b.toNat : Int)] w fun e w' => e = .returned (.bool (Cr.isSml b)) ∧ w = w' := by
  go_enter Tryz.func39, Tryz.ntmps39
  go_wp2
  all_goals go_ret
  all_goals (refine ⟨ret_bool ?_, rfl⟩; simp only [Cr.isSml, Bool.and_eq_true, Bool.or_eq_true, decide_eq_true_eq, Bool.false_eq_true, true_iff, false_iff, iff_true, iff_false, beq_iff_eq]; (try simp only [beq_iff_eq, beq_eq_false_iff_ne, ne_eq] at *); (try omega))
set_option maxHeartbeats 1000000 in
set_option maxRecDepth 100000 in
theorem isCapital_any (b : UInt8) (w : World) : Calls Tryz.prog 88 #[.int .u8 (b.toNat : Int)] w fun e w' => e = .returned (.bool (Cr.isCap b)) ∧ w = w' := by
  go_enter Tryz.func88, Tryz.ntmps88
  go_wp2
  all_goals go_ret
  all_goals (refine ⟨ret_bool ?_, rfl⟩; simp only [Cr.isCap, Bool.and_eq_true, Bool.or_eq_true, decide_eq_true_eq, Bool.false_eq_true, true_iff, false_iff, iff_true, iff_false, beq_iff_eq]; (try simp only [beq_iff_eq, beq_eq_false_iff_ne, ne_eq] at *); (try omega))
set_option maxHeartbeats 1000000 in
set_option maxRecDepth 100000 in
theorem isDigit_any (b : UInt8) (w : World) : Calls Tryz.prog 109 #[.int .u8 (b.toNat : Int)] w fun e w' => e = .returned (.bool (Cr.isDig b)) ∧ w = w' := by
  go_enter Tryz.func109, Tryz.ntmps109
  go_wp2
  all_goals go_ret
  all_goals (refine ⟨ret_bool ?_, rfl⟩; simp only [Cr.isDig, Bool.and_eq_true, Bool.or_eq_true, decide_eq_true_eq, Bool.false_eq_true, true_iff, false_iff, iff_true, iff_false, beq_iff_eq]; (try simp only [beq_iff_eq, beq_eq_false_iff_ne, ne_eq] at *); (try omega))
set_option maxHeartbeats 1000000 in
set_option maxRecDepth 100000 in
theorem isBlank_any (b : UInt8) (w : World) : Calls Tryz.prog 168 #[.int .u8 (b.toNat : Int)] w fun e w' => e = .returned (.bool (Cr.isBlk b)) ∧ w = w' := by
  go_enter Tryz.func168, Tryz.ntmps168
  go_wp2
  all_goals go_ret
  all_goals (refine ⟨ret_bool ?_, rfl⟩; simp only [Cr.isBlk, Bool.and_eq_true, Bool.or_eq_true, decide_eq_true_eq, Bool.false_eq_true, true_iff, false_iff, iff_true, iff_false, beq_iff_eq]; (try simp only [beq_iff_eq, beq_eq_false_iff_ne, ne_eq] at *); (try omega))
set_option maxHeartbeats 1000000 in
set_option maxRecDepth 100000 in
theorem inText_any (b : UInt8) (w : World) : Calls Tryz.prog 127 #[.int .u8 (b.toNat : Int)] w fun e w' => e = .returned (.bool (Cr.inTxt b)) ∧ w = w' := by
  go_enter Tryz.func127, Tryz.ntmps127
  go_wp2
  all_goals go_ret
  all_goals (refine ⟨ret_bool ?_, rfl⟩; simp only [Cr.inTxt, Bool.and_eq_true, Bool.or_eq_true, decide_eq_true_eq, Bool.false_eq_true, true_iff, false_iff, iff_true, iff_false, beq_iff_eq]; (try simp only [beq_iff_eq, beq_eq_false_iff_ne, ne_eq] at *); (try omega))
set_option maxHeartbeats 1000000 in
set_option maxRecDepth 100000 in
theorem inTarget_any (b : UInt8) (w : World) : Calls Tryz.prog 97 #[.int .u8 (b.toNat : Int)] w fun e w' => e = .returned (.bool (Cr.inTrg b)) ∧ w = w' := by
  go_enter Tryz.func97, Tryz.ntmps97
  go_wp2
  all_goals go_ret
  all_goals (refine ⟨ret_bool ?_, rfl⟩; simp only [Cr.inTrg, Bool.and_eq_true, Bool.or_eq_true, decide_eq_true_eq, Bool.false_eq_true, true_iff, false_iff, iff_true, iff_false, beq_iff_eq]; (try simp only [beq_iff_eq, beq_eq_false_iff_ne, ne_eq] at *); (try omega))
set_option maxHeartbeats 1000000 in
set_option maxRecDepth 100000 in
theorem inReason_any (b : UInt8) (w : World) : Calls Tryz.prog 98 #[.int .u8 (b.toNat : Int)] w fun e w' => e = .returned (.bool (Cr.inRsn b)) ∧ w = w' := by
  go_enter Tryz.func98, Tryz.ntmps98
  go_wp2
  all_goals go_ret
  all_goals (refine ⟨ret_bool ?_, rfl⟩; simp only [Cr.inRsn, Bool.and_eq_true, Bool.or_eq_true, decide_eq_true_eq, Bool.false_eq_true, true_iff, false_iff, iff_true, iff_false, beq_iff_eq]; (try simp only [beq_iff_eq, beq_eq_false_iff_ne, ne_eq] at *); (try omega))
set_option maxHeartbeats 1000000 in
set_option maxRecDepth 100000 in
theorem isLetter_any (b : UInt8) (w : World) : Calls Tryz.prog 108 #[.int .u8 (b.toNat : Int)] w fun e w' => e = .returned (.bool (Cr.isLet b)) ∧ w = w' := by
  have HS := Lib.hid (isSmall_any b w)
  have HC := Lib.hid (isCapital_any b w)
  have e : Cr.isLet b = (Cr.isSml b || Cr.isCap b) := rfl
  rw [e]
  clear e
  generalize Cr.isSml b = s at *
  generalize Cr.isCap b = k at *
  cases s
  all_goals
    go_enter Tryz.func108, Tryz.ntmps108
    go_wp2_with fail
    (with_reducible refine HS.out.mono ?_)
    rintro e w1 ⟨rfl, rfl⟩
    go_wp2_with fail
    try
      (with_reducible refine HC.out.mono ?_)
      rintro e w1 ⟨rfl, rfl⟩
      go_wp2
    go_ret
    exact ⟨rfl, rfl⟩
theorem idx_mem (l : List UInt8) (c : UInt8) : 0 ≤ Lib.indexByte l c ↔ l.contains c = true := by
  induction l with
  | nil => simp [Lib.indexByte]
  | cons x l ih =>
    unfold Lib.indexByte
    by_cases h : x = c
    · simp [h]
    · have h2 : ¬ c = x := fun e => h e.symm
      have h3 : (x == c) = false := by simpa using h
      rw [h3]
      simp only [Bool.false_eq_true, if_false, List.contains_cons]
      have h4 : (c == x) = false := by simpa using h2
      rw [h4, Bool.false_or, ← ih]
      by_cases h5 : Lib.indexByte l c = -1
      · rw [h5]; decide
      · have h6 : (Lib.indexByte l c == -1) = false := by simpa using h5
        have h7 : ∀ l : List UInt8, -1 ≤ Lib.indexByte l c := by
          intro l
          induction l with
          | nil => simp [Lib.indexByte]
          | cons y l ih => unfold Lib.indexByte; split <;> (try split) <;> omega
        have := h7 l
        rw [h6]
        simp only [Bool.false_eq_true, if_false]
        omega
set_option maxHeartbeats 1000000 in
set_option maxRecDepth 100000 in
theorem inToken_any (b : UInt8) (w : World) : Calls Tryz.prog 123 #[.int .u8 (b.toNat : Int)] w fun e w' => e = .returned (.bool (Cr.inTok b)) ∧ w = w' := by
  have HL := Lib.hid (isLetter_any b w)
  have HD := Lib.hid (isDigit_any b w)
  have HI := Lib.hid (Tryz.strings_IndexByte ⟨#[45, 95, 46, 33, 35, 36, 37, 38, 39, 42, 43, 94, 124, 126]⟩ (b.toNat : Int) w)
  have hb : (b.toNat : Int).toNat.toUInt8 = b := by simp
  rw [hb] at HI
  have e : Cr.inTok b = (Cr.isLet b || Cr.isDig b || decide (0 ≤ Lib.indexByte Cr.tokX b)) := by
    unfold Cr.inTok
    congr 1
    refine Bool.eq_iff_iff.2 ?_
    rw [decide_eq_true_eq]
    exact (idx_mem _ _).symm
  have e2 : (#[45, 95, 46, 33, 35, 36, 37, 38, 39, 42, 43, 94, 124, 126] : Array UInt8).toList = Cr.tokX := rfl
  rw [e2] at HI
  rw [e]
  clear e e2 hb
  generalize Cr.isLet b = s at *
  generalize Cr.isDig b = k at *
  generalize Lib.indexByte Cr.tokX b = x at *
  cases s
  · cases k
    · go_enter Tryz.func123, Tryz.ntmps123
      go_wp2_with fail
      (with_reducible refine HL.out.mono ?_)
      rintro e w1 ⟨rfl, rfl⟩
      go_wp2_with fail
      (with_reducible refine HD.out.mono ?_)
      rintro e w1 ⟨rfl, rfl⟩
      go_wp2_with fail
      (with_reducible refine HI.out.mono ?_)
      rintro e w1 ⟨rfl, rfl⟩
      go_wp2
      go_ret
      exact ⟨by simp, rfl⟩
    · go_enter Tryz.func123, Tryz.ntmps123
      go_wp2_with fail
      (with_reducible refine HL.out.mono ?_)
      rintro e w1 ⟨rfl, rfl⟩
      go_wp2_with fail
      (with_reducible refine HD.out.mono ?_)
      rintro e w1 ⟨rfl, rfl⟩
      go_wp2
      go_ret
      exact ⟨by simp, rfl⟩
  · go_enter Tryz.func123, Tryz.ntmps123
    go_wp2_with fail
    (with_reducible refine HL.out.mono ?_)
    rintro e w1 ⟨rfl, rfl⟩
    go_wp2
    go_ret
    exact ⟨by simp, rfl⟩
set_option maxHeartbeats 1000000 in
set_option maxRecDepth 100000 in
theorem hexDigit_any (b : UInt8) (w : World) : Calls Tryz.prog 143 #[.int .u8 (b.toNat : Int)] w fun e w' => e = .returned (.int .i64 (Cr.hexV b)) ∧ w = w' := by
  have HD := Lib.hid (isDigit_any b w)
  have hb : b.toNat < 256 := b.toNat_lt
  by_cases h1 : 48 ≤ b.toNat ∧ b.toNat ≤ 57
  · have e1 : Cr.isDig b = true := by simp [Cr.isDig, h1]
    have e2 : Cr.hexV b = (b.toNat : Int) - 48 := by unfold Cr.hexV; rw [if_pos e1]
    rw [e1] at HD
    rw [e2]
    clear e1 e2
    go_enter Tryz.func143, Tryz.ntmps143
    go_wp2_with fail
    (with_reducible refine HD.out.mono ?_)
    rintro e w1 ⟨rfl, rfl⟩
    go_wp2
    go_ret
    exact ⟨rfl, rfl⟩
  · have e1 : Cr.isDig b = false := by unfold Cr.isDig; simp; omega
    rw [e1] at HD
    by_cases h2 : 97 ≤ b.toNat ∧ b.toNat ≤ 102
    · have e2 : Cr.hexV b = (b.toNat : Int) - 97 + 10 := by unfold Cr.hexV; rw [if_neg (by simp [e1]), if_pos (by simp [h2])]; omega
      rw [e2]
      clear e1 e2
      have t1 : (97 : Int) ≤ b.toNat := by omega
      have t2 : (b.toNat : Int) ≤ 102 := by omega
      go_enter Tryz.func143, Tryz.ntmps143
      go_wp2_with fail
      (with_reducible refine HD.out.mono ?_)
      rintro e w1 ⟨rfl, rfl⟩
      go_wp2
      go_ret
      exact ⟨rfl, rfl⟩
    · by_cases h3 : 65 ≤ b.toNat ∧ b.toNat ≤ 70
      · have e2 : Cr.hexV b = (b.toNat : Int) - 65 + 10 := by unfold Cr.hexV; rw [if_neg (by simp [e1]), if_neg (by simp; omega), if_pos (by simp [h3])]; omega
        rw [e2]
        clear e1 e2
        have t1 : (65 : Int) ≤ b.toNat := by omega
        have t2 : (b.toNat : Int) ≤ 70 := by omega
        have t3 : (b.toNat : Int) < 97 := by omega
        go_enter Tryz.func143, Tryz.ntmps143
        go_wp2_with fail
        (with_reducible refine HD.out.mono ?_)
        rintro e w1 ⟨rfl, rfl⟩
        go_wp2
        go_ret
        exact ⟨rfl, rfl⟩
      · have e2 : Cr.hexV b = -1 := by unfold Cr.hexV; rw [if_neg (by simp [e1]), if_neg (by simp; omega), if_neg (by simp; omega)]
        rw [e2]
        clear e1 e2
        go_enter Tryz.func143, Tryz.ntmps143
        go_wp2_with fail
        (with_reducible refine HD.out.mono ?_)
        rintro e w1 ⟨rfl, rfl⟩
        go_wp2
        all_goals first | omega | (go_ret; exact ⟨rfl, rfl⟩)
set_option maxHeartbeats 1000000 in
set_option maxRecDepth 100000 in
theorem bare_any (s : Int) (w : World) : Calls Tryz.prog 52 #[.int .i64 s] w fun e w' => e = .returned (.bool (Cr.bare s)) ∧ w = w' := by
  go_enter Tryz.func52, Tryz.ntmps52
  go_wp2
  all_goals go_ret
  all_goals (refine ⟨ret_bool ?_, rfl⟩; simp only [Cr.bare, Bool.and_eq_true, Bool.or_eq_true, decide_eq_true_eq, Bool.false_eq_true, true_iff, false_iff, iff_true, iff_false, beq_iff_eq]; (try simp only [beq_iff_eq, beq_eq_false_iff_ne, ne_eq] at *); (try omega))
end Go.Proofs.YthfloagpmmohkaaGreatDoor

/- Elements of several cells each, laid one behind the other. No program in sight. -/
namespace Go.Proofs.YthfloagpmmohkaaGreatDoor
open Go Go.RowKit

theorem flat_get {α : Type} (f : α → List Value) (k : Nat) (hk : ∀ a, (f a).length = k) : ∀ (l : List α) (i j : Nat) (_ : j < k) (a : α) (_ : l[i]? = some a), (l.flatMap f)[i * k + j]? = (f a)[j]?
  | [], i, j, _, a, h => by simp at h
  | x :: l, 0, j, hj, a, h => by
    simp at h; subst h
    rw [List.flatMap_cons, List.getElem?_append_left (by rw [hk]; omega)]; simp
  | x :: l, i + 1, j, hj, a, h => by
    have := flat_get f k hk l i j hj a (by simpa using h)
    rw [List.flatMap_cons, List.getElem?_append_right (by rw [hk, Nat.add_mul]; omega), hk, ← this]
    congr 1
    rw [Nat.add_mul]; omega
theorem flat_length {α : Type} (f : α → List Value) (k : Nat) (hk : ∀ a, (f a).length = k) (l : List α) : (l.flatMap f).length = l.length * k := by
  induction l with
  | nil => simp
  | cons x l ih => rw [List.flatMap_cons, List.length_append, ih, hk, List.length_cons, Nat.add_mul]; omega
end Go.Proofs.YthfloagpmmohkaaGreatDoor
