/- wire's small checks: all, checkHead of nothing, ContainsFunc of nothing. -/
import Derived.Test.YthfloagpmmohkaaGreatDoorG3
import Derived.Test.YthfloagpmmohkaaGreatDoorCoreB
namespace Go.Proofs.YthfloagpmmohkaaGreatDoor
open Go Go.RowKit Go.Proofs

set_option maxHeartbeats 1000000 in
set_option maxRecDepth 100000 in
theorem all_inReason (l : List UInt8) (w : World) (hl : l.length ≤ 140737488355328) :
    Calls Tryz.prog 96 #[tx l, .func (.func 98) #[] #[]] w fun e w' => e = .returned (.bool (l.all Cr.inRsn)) ∧ w = w' := by
  obtain ⟨n, hn⟩ : ∃ n, n = l.length := ⟨_, rfl⟩
  rw [← hn] at hl
  have HN := Lib.hid hn
  clear hn
  go_enter Tryz.func96, Tryz.ntmps96
  go_wp2
  go_loopw [4, 5, 8] (fun _ _ i wr => wr = w ∧ ∃ k : Nat, k ≤ n ∧ i = .int .i64 k ∧ (l.take k).all Cr.inRsn = true) (fun _ _ i _ => n - (intOf i).toNat)
  case atStart => exact ⟨rfl, 0, Nat.zero_le _, rfl, rfl⟩
  case round =>
    obtain ⟨rfl, k, hk, rfl, ha⟩ := hrel
    have HA := Lib.hid ha
    clear ha
    by_cases hlt : k < n
    · have d1 : decide ((k : Int) < (l.length : Int)) = true := decide_eq_true (by rw [← HN.out]; omega)
      have g1 : decide (k < l.length) = true := decide_eq_true (by rw [← HN.out]; omega)
      obtain ⟨x, hx⟩ : ∃ x, l[k]? = some x := ⟨_, List.getElem?_eq_getElem (by rw [← HN.out]; exact hlt)⟩
      have hix := tx_index l k x hx
      have HX := Lib.hid hx
      clear hx
      have HFX := inReason_any x wr
      cases hp : Cr.inRsn x with
      | true =>
        rw [hp] at HFX
        have HFX := Lib.hid HFX
        have HS := Lib.hid (show (l.take (k + 1)).all Cr.inRsn = true by
          rw [List.take_add_one, HX.out]
          simp [HA.out, hp])
        clear hp
        go_wp2_with fail
        (with_reducible refine (HFX.out).mono ?_)
        rintro e w2 ⟨rfl, rfl⟩
        go_wp2
        go_roundw
        case rel => exact ⟨by trivial, k + 1, by omega, by go_num, HS.out⟩
        case measure => simp [intOf]; omega
      | false =>
        rw [hp] at HFX
        have HFX := Lib.hid HFX
        have E := Lib.hid (show l.all Cr.inRsn = false by
          rw [Bool.eq_false_iff]
          intro q
          have := List.all_eq_true.1 q x (List.mem_of_getElem? HX.out)
          rw [hp] at this
          cases this)
        clear hp
        go_wp2_with fail
        (with_reducible refine (HFX.out).mono ?_)
        rintro e w2 ⟨rfl, rfl⟩
        go_wp2
        go_ret
        rw [E.out]
        exact ⟨rfl, rfl⟩
    · have d1 : decide ((k : Int) < (l.length : Int)) = false := decide_eq_false (by rw [← HN.out]; omega)
      have g1 : decide (k < l.length) = false := decide_eq_false (by rw [← HN.out]; omega)
      have E := Lib.hid (show l.all Cr.inRsn = true by have := HA.out; rwa [List.take_of_length_le (by rw [← HN.out]; omega)] at this)
      clear hlt
      go_wp2
      go_ret
      rw [E.out]
      exact ⟨rfl, rfl⟩
set_option maxHeartbeats 1000000 in
set_option maxRecDepth 100000 in
theorem checkHead_nil (w : World) : Calls Tryz.prog 43 #[.slice none 0 0] w fun e w' => e = .returned (.int .i64 0) ∧ w = w' := by
  go_enter Tryz.func43, Tryz.ntmps43
  go_wp2
  go_loopw [10] (fun i wr => wr = w ∧ i = .int .i64 0) (fun _ _ => 0)
  case atStart => exact ⟨rfl, rfl⟩
  case round =>
    obtain ⟨rfl, rfl⟩ := hrel
    go_wp2
    go_ret
    exact ⟨rfl, rfl⟩
set_option maxHeartbeats 1000000 in
set_option maxRecDepth 100000 in
theorem indexPr_nil (f : Value) (w : World) : Calls Tryz.prog 99 #[.slice none 0 0, f] w fun e w' => e = .returned (.int .i64 (-1)) ∧ w = w' := by
  go_enter Tryz.func99, Tryz.ntmps99
  go_wp2
  go_loopw [8] (fun i wr => wr = w ∧ i = .int .i64 0) (fun _ _ => 0)
  case atStart => exact ⟨rfl, rfl⟩
  case round =>
    obtain ⟨rfl, rfl⟩ := hrel
    go_wp2
    go_ret
    exact ⟨rfl, rfl⟩
set_option maxHeartbeats 1000000 in
set_option maxRecDepth 100000 in
theorem containsPr_nil (f : Value) (w : World) : Calls Tryz.prog 49 #[.slice none 0 0, f] w fun e w' => e = .returned (.bool false) ∧ w = w' := by
  have HI := Lib.hid (indexPr_nil f w)
  go_enter Tryz.func49, Tryz.ntmps49
  go_wp2_with fail
  (with_reducible refine (HI.out).mono ?_)
  rintro e w2 ⟨rfl, rfl⟩
  go_wp2
  go_ret
  exact ⟨rfl, rfl⟩
end Go.Proofs.YthfloagpmmohkaaGreatDoor
