/- names of pairs of a head: tokens. Printed by wip/gen_head.py. -/
import Derived.Test.YthfloagpmmohkaaGreatDoorG3
import Derived.Test.YthfloagpmmohkaaGreatDoorCoreB
namespace Go.Proofs.YthfloagpmmohkaaGreatDoor
open Go Go.RowKit Go.Proofs

/-- a name of a pair -/
def nameOk (l : List UInt8) : Bool := decide (l.length ≤ 100) && (l.all Cr.inTok && !l.isEmpty)
theorem tx_ne (l : List UInt8) : ((⟨l.toArray⟩ : ByteArray) == ⟨#[]⟩) = l.isEmpty := by cases l <;> rfl
set_option maxHeartbeats 2000000 in
set_option maxRecDepth 100000 in
theorem token_any (l : List UInt8) (w : World) (hl : l.length ≤ 140737488355328) : Calls Tryz.prog 87 #[tx l] w fun e w' => e = .returned (.bool (l.all Cr.inTok && !l.isEmpty)) ∧ w = w' := by
  have HE := Lib.hid (tx_ne l)
  obtain ⟨n, hn⟩ : ∃ n, n = l.length := ⟨_, rfl⟩
  rw [← hn] at hl
  have HN := Lib.hid hn
  clear hn
  go_enter Tryz.func87, Tryz.ntmps87
  go_wp2
  go_loopw [2, 3, 6] (fun _ _ i wr => wr = w ∧ ∃ k : Nat, k ≤ n ∧ i = .int .i64 k ∧ (l.take k).all Cr.inTok = true) (fun _ _ i _ => n - (intOf i).toNat)
  case atStart => exact ⟨rfl, 0, Nat.zero_le _, rfl, rfl⟩
  case round =>
    obtain ⟨rfl, k, hk, rfl, ha⟩ := hrel
    have HA := Lib.hid ha
    clear ha
    by_cases hlt : k < n
    · have d1 : decide ((k : Int) < (l.length : Int)) = true := decide_eq_true (by rw [← HN.out]; omega)
      have g1 : decide (k < l.length) = true := decide_eq_true (by rw [← HN.out]; omega)
      obtain ⟨x, hx⟩ : ∃ x, l[k]? = some x := ⟨_, List.getElem?_eq_getElem (by rw [← HN.out]; exact hlt)⟩
      have hix := tx_index l k x hx
      have HX := Lib.hid hx
      clear hx
      cases hp : Cr.inTok x with
      | true =>
        have HS := Lib.hid (show (l.take (k + 1)).all Cr.inTok = true by
          rw [List.take_add_one, HX.out]
          simp [HA.out, hp])
        have HC := inToken_any x wr
        rw [hp] at HC
        have HC := Lib.hid HC
        clear hp
        go_wp2_with fail
        (with_reducible refine (HC.out).mono ?_)
        rintro e w2 ⟨rfl, rfl⟩
        go_wp2
        go_roundw
        case rel => exact ⟨by trivial, k + 1, by omega, by go_num, HS.out⟩
        case measure => simp [intOf]; omega
      | false =>
        have E := Lib.hid (show l.all Cr.inTok = false by
          rw [Bool.eq_false_iff]
          intro q
          have := List.all_eq_true.1 q x (List.mem_of_getElem? HX.out)
          rw [hp] at this
          cases this)
        have HC := inToken_any x wr
        rw [hp] at HC
        have HC := Lib.hid HC
        clear hp
        go_wp2_with fail
        (with_reducible refine (HC.out).mono ?_)
        rintro e w2 ⟨rfl, rfl⟩
        go_wp2
        go_ret
        rw [E.out]
        exact ⟨rfl, rfl⟩
    · have d1 : decide ((k : Int) < (l.length : Int)) = false := decide_eq_false (by rw [← HN.out]; omega)
      have g1 : decide (k < l.length) = false := decide_eq_false (by rw [← HN.out]; omega)
      have E := Lib.hid (show l.all Cr.inTok = true by have := HA.out; rwa [List.take_of_length_le (by rw [← HN.out]; omega)] at this)
      clear hlt
      cases he : l.isEmpty with
      | true =>
        have h1 := HE.out
        rw [he] at h1
        go_wp2
        go_ret
        rw [E.out, he]
        exact ⟨rfl, rfl⟩
      | false =>
        have h1 := HE.out
        rw [he] at h1
        go_wp2
        go_ret
        rw [E.out, he]
        exact ⟨rfl, rfl⟩
set_option maxHeartbeats 2000000 in
set_option maxRecDepth 100000 in
theorem nameForm_any (l : List UInt8) (w : World) (hl : l.length ≤ 140737488355328) : Calls Tryz.prog 37 #[tx l] w fun e w' => e = .returned (.bool (nameOk l)) ∧ w = w' := by
  have HT := Lib.hid (token_any l w hl)
  obtain ⟨t, ht⟩ : ∃ t, t = (l.all Cr.inTok && !l.isEmpty) := ⟨_, rfl⟩
  rw [← ht] at HT
  have HT := Lib.hid HT.out
  by_cases h : l.length ≤ 100
  · have E := Lib.hid (show nameOk l = t by unfold nameOk; rw [decide_eq_true h, ht]; rfl)
    have d1 : decide ((l.length : Int) ≤ 100) = true := decide_eq_true (by omega)
    have d2 : decide (l.length ≤ 100) = true := decide_eq_true h
    clear h ht
    go_enter Tryz.func37, Tryz.ntmps37
    go_wp2_with fail
    (with_reducible refine (HT.out).mono ?_)
    rintro e w2 ⟨rfl, rfl⟩
    cases t with
    | true => go_wp2; go_ret; rw [E.out]; exact ⟨rfl, rfl⟩
    | false => go_wp2; go_ret; rw [E.out]; exact ⟨rfl, rfl⟩
  · have E := Lib.hid (show nameOk l = false by unfold nameOk; rw [decide_eq_false h]; rfl)
    have d1 : decide ((l.length : Int) ≤ 100) = false := decide_eq_false (by omega)
    have d2 : decide (l.length ≤ 100) = false := decide_eq_false h
    clear h ht
    go_enter Tryz.func37, Tryz.ntmps37
    go_wp2
    go_ret
    rw [E.out]
    exact ⟨rfl, rfl⟩
set_option maxHeartbeats 2000000 in
set_option maxRecDepth 100000 in
theorem rdigit_any (b : UInt8) (w : World) : Calls Tryz.prog 125 #[.int .u8 (b.toNat : Int)] w fun e w' => e = .returned (.bool (Cr.isDig b)) ∧ w = w' := by
  go_enter Tryz.func125, Tryz.ntmps125
  go_wp2
  all_goals go_ret
  all_goals (refine ⟨ret_bool ?_, rfl⟩; simp only [Cr.isSml, Cr.isCap, Cr.isDig, Cr.isBlk, Bool.and_eq_true, Bool.or_eq_true, decide_eq_true_eq, Bool.false_eq_true, true_iff, false_iff, iff_true, iff_false, beq_iff_eq]; (try simp only [beq_iff_eq, beq_eq_false_iff_ne, ne_eq] at *); (try omega))
set_option maxHeartbeats 2000000 in
set_option maxRecDepth 100000 in
theorem rlarge_any (b : UInt8) (w : World) : Calls Tryz.prog 90 #[.int .u8 (b.toNat : Int)] w fun e w' => e = .returned (.bool (Cr.isCap b)) ∧ w = w' := by
  go_enter Tryz.func90, Tryz.ntmps90
  go_wp2
  all_goals go_ret
  all_goals (refine ⟨ret_bool ?_, rfl⟩; simp only [Cr.isSml, Cr.isCap, Cr.isDig, Cr.isBlk, Bool.and_eq_true, Bool.or_eq_true, decide_eq_true_eq, Bool.false_eq_true, true_iff, false_iff, iff_true, iff_false, beq_iff_eq]; (try simp only [beq_iff_eq, beq_eq_false_iff_ne, ne_eq] at *); (try omega))
set_option maxHeartbeats 2000000 in
set_option maxRecDepth 100000 in
theorem rlower_any (b : UInt8) (w : World) : Calls Tryz.prog 42 #[.int .u8 (b.toNat : Int)] w fun e w' => e = .returned (.bool (Cr.isSml b)) ∧ w = w' := by
  go_enter Tryz.func42, Tryz.ntmps42
  go_wp2
  all_goals go_ret
  all_goals (refine ⟨ret_bool ?_, rfl⟩; simp only [Cr.isSml, Cr.isCap, Cr.isDig, Cr.isBlk, Bool.and_eq_true, Bool.or_eq_true, decide_eq_true_eq, Bool.false_eq_true, true_iff, false_iff, iff_true, iff_false, beq_iff_eq]; (try simp only [beq_iff_eq, beq_eq_false_iff_ne, ne_eq] at *); (try omega))
set_option maxHeartbeats 2000000 in
set_option maxRecDepth 100000 in
theorem rblank_any (b : UInt8) (w : World) : Calls Tryz.prog 129 #[.int .u8 (b.toNat : Int)] w fun e w' => e = .returned (.bool (Cr.isBlk b)) ∧ w = w' := by
  go_enter Tryz.func129, Tryz.ntmps129
  go_wp2
  all_goals go_ret
  all_goals (refine ⟨ret_bool ?_, rfl⟩; simp only [Cr.isSml, Cr.isCap, Cr.isDig, Cr.isBlk, Bool.and_eq_true, Bool.or_eq_true, decide_eq_true_eq, Bool.false_eq_true, true_iff, false_iff, iff_true, iff_false, beq_iff_eq]; (try simp only [beq_iff_eq, beq_eq_false_iff_ne, ne_eq] at *); (try omega))
set_option maxHeartbeats 2000000 in
set_option maxRecDepth 100000 in
theorem rletter_any (b : UInt8) (w : World) : Calls Tryz.prog 124 #[.int .u8 (b.toNat : Int)] w fun e w' => e = .returned (.bool (Cr.isLet b)) ∧ w = w' := by
  have HB := Lib.hid (rlarge_any b w)
  have HS := Lib.hid (rlower_any b w)
  have e : Cr.isLet b = (Cr.isSml b || Cr.isCap b) := rfl
  rw [e]
  obtain ⟨x, hx⟩ : ∃ x, x = Cr.isSml b := ⟨_, rfl⟩
  obtain ⟨y, hy⟩ : ∃ y, y = Cr.isCap b := ⟨_, rfl⟩
  rw [← hx] at HS
  rw [← hy] at HB
  rw [← hx, ← hy]
  have HS := Lib.hid HS.out
  have HB := Lib.hid HB.out
  clear hx hy e
  cases y with
  | true =>
    go_enter Tryz.func124, Tryz.ntmps124
    go_wp2_with fail
    (with_reducible refine (HB.out).mono ?_)
    rintro e w2 ⟨rfl, rfl⟩
    go_wp2
    go_ret
    rw [Bool.or_true]
    exact ⟨rfl, rfl⟩
  | false =>
    go_enter Tryz.func124, Tryz.ntmps124
    go_wp2_with fail
    (with_reducible refine (HB.out).mono ?_)
    rintro e w2 ⟨rfl, rfl⟩
    go_wp2_with fail
    (with_reducible refine (HS.out).mono ?_)
    rintro e w2 ⟨rfl, rfl⟩
    cases x with
    | true => go_wp2; go_ret; exact ⟨rfl, rfl⟩
    | false => go_wp2; go_ret; exact ⟨rfl, rfl⟩
end Go.Proofs.YthfloagpmmohkaaGreatDoor
