/- names of pairs of a head in the reference: tokens. Printed by wip/gen_head.py. -/
import Derived.Test.YthfloagpmmohkaaGreatDoorHedA
namespace Go.Proofs.YthfloagpmmohkaaGreatDoor
open Go Go.RowKit Go.Proofs

def neB (b : UInt8) (y : UInt8) : Bool := !(y == b)
theorem contains_neB (l : List UInt8) (b : UInt8) : l.contains b = !(l.all (neB b)) := by
  induction l with
  | nil => rfl
  | cons x l ih =>
    rw [List.contains_cons, List.all_cons, ih]
    unfold neB
    by_cases h : b = x
    · subst h; simp
    · have h1 : (b == x) = false := by simpa using h
      have h2 : (x == b) = false := by simpa using fun e => h e.symm
      rw [h1, h2]
      simp
set_option maxHeartbeats 2000000 in
set_option maxRecDepth 100000 in
theorem rone_any (l : List UInt8) (b : UInt8) (w : World) (hl : l.length ≤ 140737488355328) : Calls Tryz.prog 126 #[tx l, .int .u8 (b.toNat : Int)] w fun e w' => e = .returned (.bool (l.contains b)) ∧ w = w' := by
  have HB := Lib.hid (contains_neB l b)
  obtain ⟨n, hn⟩ : ∃ n, n = l.length := ⟨_, rfl⟩
  rw [← hn] at hl
  have HN := Lib.hid hn
  clear hn
  go_enter Tryz.func126, Tryz.ntmps126
  go_wp2
  go_loopw [4, 5] (fun _ i wr => wr = w ∧ ∃ k : Nat, k ≤ n ∧ i = .int .i64 k ∧ (l.take k).all (neB b) = true) (fun _ i _ => n - (intOf i).toNat)
  case atStart => exact ⟨rfl, 0, Nat.zero_le _, rfl, rfl⟩
  case round =>
    obtain ⟨rfl, k, hk, rfl, ha⟩ := hrel
    have HA := Lib.hid ha
    clear ha
    by_cases hlt : k < n
    · have d1 : decide ((k : Int) < (l.length : Int)) = true := decide_eq_true (by rw [← HN.out]; omega)
      have g1 : decide (k < l.length) = true := decide_eq_true (by rw [← HN.out]; omega)
      obtain ⟨x, hx⟩ : ∃ x, l[k]? = some x := ⟨_, List.getElem?_eq_getElem (by rw [← HN.out]; exact hlt)⟩
      have hix := tx_index l k x hx
      have HX := Lib.hid hx
      clear hx
      cases hp : (neB b) x with
      | true =>
        have HS := Lib.hid (show (l.take (k + 1)).all (neB b) = true by
          rw [List.take_add_one, HX.out]
          simp [HA.out, hp])
        have hq : (x.toNat : Int) ≠ (b.toNat : Int) := by
          unfold neB at hp
          intro e
          have e1 : x = b := UInt8.toNat_inj.1 (by omega)
          rw [e1] at hp
          simp at hp
        have t0 : ((x.toNat : Int) == (b.toNat : Int)) = false := by simp; omega
        clear hp hq
        go_wp2
        go_roundw
        case rel => exact ⟨by trivial, k + 1, by omega, by go_num, HS.out⟩
        case measure => simp [intOf]; omega
      | false =>
        have E := Lib.hid (show l.all (neB b) = false by
          rw [Bool.eq_false_iff]
          intro q
          have := List.all_eq_true.1 q x (List.mem_of_getElem? HX.out)
          rw [hp] at this
          cases this)
        have hq : (x.toNat : Int) = (b.toNat : Int) := by
          unfold neB at hp
          have e1 : x = b := by simpa using hp
          rw [e1]
        have t0 : ((x.toNat : Int) == (b.toNat : Int)) = true := by simp; omega
        clear hp hq
        go_wp2
        go_ret
        rw [HB.out, E.out]
        exact ⟨rfl, rfl⟩
    · have d1 : decide ((k : Int) < (l.length : Int)) = false := decide_eq_false (by rw [← HN.out]; omega)
      have g1 : decide (k < l.length) = false := decide_eq_false (by rw [← HN.out]; omega)
      have E := Lib.hid (show l.all (neB b) = true by have := HA.out; rwa [List.take_of_length_le (by rw [← HN.out]; omega)] at this)
      clear hlt
      go_wp2
      go_ret
      rw [HB.out, E.out]
      exact ⟨rfl, rfl⟩
set_option maxHeartbeats 2000000 in
set_option maxRecDepth 100000 in
theorem rtokenByte_any (b : UInt8) (w : World) : Calls Tryz.prog 89 #[.int .u8 (b.toNat : Int)] w fun e w' => e = .returned (.bool (Cr.inTok b)) ∧ w = w' := by
  have HL := Lib.hid (rletter_any b w)
  have HD := Lib.hid (rdigit_any b w)
  have HO := Lib.hid (show Calls Tryz.prog 126 #[.string ⟨#[45, 95, 46, 33, 35, 36, 37, 38, 39, 42, 43, 94, 124, 126]⟩, .int .u8 (b.toNat : Int)] w (fun e w' => e = .returned (.bool (Cr.tokX.contains b)) ∧ w = w') from rone_any Cr.tokX b w (by decide))
  have HT := Lib.hid (show Cr.inTok b = (Cr.isLet b || Cr.isDig b || Cr.tokX.contains b) from rfl)
  obtain ⟨x, hx⟩ : ∃ x, x = Cr.isLet b := ⟨_, rfl⟩
  obtain ⟨y, hy⟩ : ∃ y, y = Cr.isDig b := ⟨_, rfl⟩
  obtain ⟨z, hz⟩ : ∃ z, z = Cr.tokX.contains b := ⟨_, rfl⟩
  rw [← hx] at HL
  rw [← hy] at HD
  rw [← hz] at HO
  rw [← hx, ← hy, ← hz] at HT
  have HL := Lib.hid HL.out
  have HD := Lib.hid HD.out
  have HO := Lib.hid HO.out
  have HT := Lib.hid HT.out
  clear hx hy hz
  cases x with
  | true =>
    go_enter Tryz.func89, Tryz.ntmps89
    go_wp2_with fail
    (with_reducible refine (HL.out).mono ?_)
    rintro e w2 ⟨rfl, rfl⟩
    go_wp2
    go_ret
    rw [HT.out]
    exact ⟨by simp, rfl⟩
  | false =>
    cases y with
    | true =>
      go_enter Tryz.func89, Tryz.ntmps89
      go_wp2_with fail
      (with_reducible refine (HL.out).mono ?_)
      rintro e w2 ⟨rfl, rfl⟩
      go_wp2_with fail
      (with_reducible refine (HD.out).mono ?_)
      rintro e w2 ⟨rfl, rfl⟩
      go_wp2
      go_ret
      rw [HT.out]
      exact ⟨by simp, rfl⟩
    | false =>
      go_enter Tryz.func89, Tryz.ntmps89
      go_wp2_with fail
      (with_reducible refine (HL.out).mono ?_)
      rintro e w2 ⟨rfl, rfl⟩
      go_wp2_with fail
      (with_reducible refine (HD.out).mono ?_)
      rintro e w2 ⟨rfl, rfl⟩
      go_wp2_with fail
      (with_reducible refine (HO.out).mono ?_)
      rintro e w2 ⟨rfl, rfl⟩
      cases z with
      | true => go_wp2; go_ret; rw [HT.out]; exact ⟨rfl, rfl⟩
      | false => go_wp2; go_ret; rw [HT.out]; exact ⟨rfl, rfl⟩
set_option maxHeartbeats 2000000 in
set_option maxRecDepth 100000 in
theorem rToken_any (l : List UInt8) (w : World) (hl : l.length ≤ 140737488355328) : Calls Tryz.prog 40 #[tx l] w fun e w' => e = .returned (.bool (nameOk l)) ∧ w = w' := by
  have HE := Lib.hid (tx_ne l)
  obtain ⟨n, hn⟩ : ∃ n, n = l.length := ⟨_, rfl⟩
  rw [← hn] at hl
  have HN := Lib.hid hn
  clear hn
  go_enter Tryz.func40, Tryz.ntmps40
  go_wp2
  go_loopw [2, 3] (fun _ i wr => wr = w ∧ ∃ k : Nat, k ≤ n ∧ i = .int .i64 k ∧ (l.take k).all Cr.inTok = true) (fun _ i _ => n - (intOf i).toNat)
  case atStart => exact ⟨rfl, 0, Nat.zero_le _, rfl, rfl⟩
  case round =>
    obtain ⟨rfl, k, hk, rfl, ha⟩ := hrel
    have HA := Lib.hid ha
    clear ha
    by_cases hlt : k < n
    · have d1 : decide ((k : Int) < (l.length : Int)) = true := decide_eq_true (by rw [← HN.out]; omega)
      have g1 : decide (k < l.length) = true := decide_eq_true (by rw [← HN.out]; omega)
      obtain ⟨x, hx⟩ : ∃ x, l[k]? = some x := ⟨_, List.getElem?_eq_getElem (by rw [← HN.out]; exact hlt)⟩
      have hix := tx_index l k x hx
      have HX := Lib.hid hx
      clear hx
      cases hp : Cr.inTok x with
      | true =>
        have HS := Lib.hid (show (l.take (k + 1)).all Cr.inTok = true by
          rw [List.take_add_one, HX.out]
          simp [HA.out, hp])
        have HC := rtokenByte_any x wr
        rw [hp] at HC
        have HC := Lib.hid HC
        clear hp
        go_wp2_with fail
        (with_reducible refine (HC.out).mono ?_)
        rintro e w2 ⟨rfl, rfl⟩
        go_wp2
        go_roundw
        case rel => exact ⟨by trivial, k + 1, by omega, by go_num, HS.out⟩
        case measure => simp [intOf]; omega
      | false =>
        have E := Lib.hid (show l.all Cr.inTok = false by
          rw [Bool.eq_false_iff]
          intro q
          have := List.all_eq_true.1 q x (List.mem_of_getElem? HX.out)
          rw [hp] at this
          cases this)
        have HC := rtokenByte_any x wr
        rw [hp] at HC
        have HC := Lib.hid HC
        clear hp
        go_wp2_with fail
        (with_reducible refine (HC.out).mono ?_)
        rintro e w2 ⟨rfl, rfl⟩
        have EN := Lib.hid (show nameOk l = false by unfold nameOk; rw [E.out]; simp)
        go_wp2
        go_ret
        rw [EN.out]
        exact ⟨rfl, rfl⟩
    · have d1 : decide ((k : Int) < (l.length : Int)) = false := decide_eq_false (by rw [← HN.out]; omega)
      have g1 : decide (k < l.length) = false := decide_eq_false (by rw [← HN.out]; omega)
      have E := Lib.hid (show l.all Cr.inTok = true by have := HA.out; rwa [List.take_of_length_le (by rw [← HN.out]; omega)] at this)
      clear hlt
      cases he : l.isEmpty with
      | true =>
        have h1 := HE.out
        rw [he] at h1
        have EN := Lib.hid (show nameOk l = false by unfold nameOk; rw [he]; simp)
        go_wp2
        go_ret
        rw [EN.out]
        exact ⟨rfl, rfl⟩
      | false =>
        have h1 := HE.out
        rw [he] at h1
        by_cases h100 : n ≤ 100
        · have d3 : decide ((l.length : Int) ≤ 100) = true := decide_eq_true (by rw [← HN.out]; omega)
          have d4 : decide (l.length ≤ 100) = true := decide_eq_true (by rw [← HN.out]; omega)
          have EN := Lib.hid (show nameOk l = true by unfold nameOk; rw [he, E.out, d4]; rfl)
          clear h100
          go_wp2
          go_ret
          rw [EN.out]
          exact ⟨rfl, rfl⟩
        · have d3 : decide ((l.length : Int) ≤ 100) = false := decide_eq_false (by rw [← HN.out]; omega)
          have d4 : decide (l.length ≤ 100) = false := decide_eq_false (by rw [← HN.out]; omega)
          have EN := Lib.hid (show nameOk l = false by unfold nameOk; rw [d4]; rfl)
          clear h100
          go_wp2
          go_ret
          rw [EN.out]
          exact ⟨rfl, rfl⟩
end Go.Proofs.YthfloagpmmohkaaGreatDoor
