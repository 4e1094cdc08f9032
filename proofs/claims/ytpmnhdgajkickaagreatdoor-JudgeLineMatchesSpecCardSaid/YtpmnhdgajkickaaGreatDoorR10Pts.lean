/- Package dynamometerref10: points checked. -/
import Derived.Test.YtpmnhdgajkickaaGreatDoorIBlk
import Derived.Test.YtpmnhdgajkickaaGreatDoorL0
namespace Go.Proofs.YtpmnhdgajkickaaGreatDoor
open Go Go.RowKit Go.Proofs

set_option maxHeartbeats 8000000 in
set_option maxRecDepth 100000 in
theorem rNumF_any (A : Option Addr) (c : Nat) (xs : List Int) (w : World) (hr : Rd w 0 w.heap.size 1 A xs.length (ints xs)) (hl : xs.length ≤ 100000) :
    Calls Tryz.prog 104 #[.slice A xs.length c] w fun e w' => e = .returned (.int .i64 (if okZ xs = true then 0 else 9)) ∧ Below w.heap.size w w' := by
  have HR := Lib.hid hr
  have hall : (∀ j x, xs[j]? = some x → -1000000 ≤ x ∧ x ≤ 1000000) → okZ xs = true := fun h => by
    unfold okZ
    rw [List.all_eq_true]
    intro x hx
    obtain ⟨j, hj⟩ := List.getElem?_of_mem hx
    have := h j x hj
    simpa using this
  have hbad : ∀ j x, xs[j]? = some x → ¬ (-1000000 ≤ x ∧ x ≤ 1000000) → ¬ okZ xs = true := fun j x hj h hk => h (okZ_mem hk (List.mem_of_getElem? hj))
  obtain ⟨V, hV⟩ : ∃ V : Int, V = if okZ xs = true then 0 else 9 := ⟨_, rfl⟩
  have HALL := Lib.hid (fun h => show V = 0 by rw [hV, if_pos (hall h)])
  have HBAD := Lib.hid (fun j x hj h => show V = 9 by rw [hV, if_neg (hbad j x hj h)])
  rw [← hV]
  clear hr hV hall hbad
  go_enter Tryz.func104, Tryz.ntmps104
  go_wp2
  go_loopw [3] (fun kv wr => ∃ k : Nat, kv = .int .i64 (k : Nat) ∧ k ≤ xs.length ∧ (∀ j x, j < k → xs[j]? = some x → -1000000 ≤ x ∧ x ≤ 1000000) ∧ Below w.heap.size w wr) (fun kv _ => xs.length - (intOf kv).toNat)
  case atStart => exact ⟨0, rfl, Nat.zero_le _, fun j x h => by omega, Below.refl _ _⟩
  case round =>
    obtain ⟨k, rfl, hk, hok, hbw⟩ := hrel
    have HBW := Lib.hid hbw
    have HOK := Lib.hid hok
    by_cases hlt : k < xs.length
    · obtain ⟨b, o, u, rfl, hb, hu, qk⟩ := (HR.out.old hbw).at1 hlt
      obtain ⟨x, ht, rfl⟩ := ints_get hu
      have HT := Lib.hid ht
      clear hok hbw hu ht
      by_cases h1 : x < -1000000
      · have t1 : decide (x < -1000000) = true := decide_eq_true h1
        have HV := Lib.hid (HBAD.out k x HT.out (by omega))
        go_wp2
        go_ret
        exact ⟨by rw [HV.out]; rfl, HBW.out⟩
      · have t1 : decide (x < -1000000) = false := decide_eq_false h1
        by_cases h2 : 1000000 < x
        · have t2 : decide (1000000 < x) = true := decide_eq_true h2
          have HV := Lib.hid (HBAD.out k x HT.out (by omega))
          go_wp2
          go_ret
          exact ⟨by rw [HV.out]; rfl, HBW.out⟩
        · have t2 : decide (1000000 < x) = false := decide_eq_false h2
          go_wp2
          go_roundw
          case rel => exact ⟨k + 1, by go_num, by omega, fun j z hj hz => by
            rcases Nat.lt_or_ge j k with g | g
            · exact HOK.out j z g hz
            · obtain rfl : j = k := by omega
              rw [HT.out] at hz
              obtain rfl := Option.some.inj hz
              omega, HBW.out⟩
          case measure => simp [intOf]; omega
    · have HV := Lib.hid (HALL.out (fun j x hj => HOK.out j x (by have := (List.getElem?_eq_some_iff.1 hj).1; omega) hj))
      clear hok hbw
      go_wp2
      go_ret
      exact ⟨by rw [HV.out]; rfl, HBW.out⟩
set_option maxHeartbeats 8000000 in
set_option maxRecDepth 100000 in
theorem rPtsF_any (A B : Option Addr) (c d : Nat) (xs ys : List Int) (w : World) (hr1 : Rd w 0 w.heap.size 1 A xs.length (ints xs)) (hr2 : Rd w 0 w.heap.size 1 B ys.length (ints ys)) :
    Calls Tryz.prog 77 #[.slice A xs.length c, .slice B ys.length d] w fun e w' => e = .returned (.int .i64 (ptC xs ys)) ∧ Below w.heap.size w w' := by
  by_cases h1 : xs.length = ys.length
  · have t1 : ((xs.length : Int) != (ys.length : Int)) = false := by rw [h1]; simp
    by_cases h2 : 300 < xs.length
    · rw [show ptC xs ys = 3 by unfold ptC; rw [if_neg (by omega), if_pos h2]]
      have t2 : decide ((300 : Int) < (xs.length : Int)) = true := decide_eq_true (by omega)
      obtain ⟨n, hn⟩ : ∃ n, n = xs.length := ⟨_, rfl⟩
      rw [← h1]
      rw [← h1] at t1
      rw [← hn] at t1 t2 h2 ⊢
      clear hr1 hr2 h1 hn
      go_enter Tryz.func77, Tryz.ntmps77
      go_wp2
      go_ret
      exact ⟨by rfl, Below.refl _ _⟩
    · have HN1 := Lib.hid (rNumF_any A c xs w hr1 (by omega))
      have HN2 := Lib.hid (fun W (hW : Below w.heap.size w W) => rNumF_any B d ys W (hr2.old hW) (by omega))
      have hv : ptC xs ys = if okZ xs = true then (if okZ ys = true then 0 else 9) else 9 := by
        unfold ptC
        rw [if_neg (by omega), if_neg h2]
        cases okZ xs <;> cases okZ ys <;> rfl
      rw [hv]
      have t2 : decide ((300 : Int) < (xs.length : Int)) = false := decide_eq_false (by omega)
      have h2' : ¬ 300 < ys.length := by omega
      obtain ⟨b1, hb1⟩ : ∃ b, b = okZ xs := ⟨_, rfl⟩
      obtain ⟨V, hV⟩ : ∃ V : Int, V = if okZ ys = true then 0 else 9 := ⟨_, rfl⟩
      rw [← hb1] at HN1 ⊢
      rw [← hV] at HN2 ⊢
      rw [h1] at HN1 t1 t2 ⊢
      clear hr1 hr2 h1 hv h2 hb1 hV
      cases b1 with
      | true =>
        rw [if_pos rfl] at HN1 ⊢
        go_enter Tryz.func77, Tryz.ntmps77
        go_wp2_with fail
        (with_reducible refine (HN1.out).mono ?_)
        rintro e w1 ⟨rfl, hb1⟩
        have HN3 := Lib.hid (HN2.out w1 hb1)
        have HB1 := Lib.hid hb1
        clear hb1
        go_wp2_with fail
        (with_reducible refine (HN3.out).mono ?_)
        rintro e w2 ⟨rfl, hb2⟩
        have HB2 := Lib.hid (below_next HB1.out hb2)
        clear hb2
        go_wp2
        go_ret
        exact ⟨by rfl, HB2.out⟩
      | false =>
        rw [if_neg (by decide)] at HN1 ⊢
        go_enter Tryz.func77, Tryz.ntmps77
        go_wp2_with fail
        (with_reducible refine (HN1.out).mono ?_)
        rintro e w1 ⟨rfl, hb1⟩
        have HB1 := Lib.hid hb1
        clear hb1
        go_wp2
        go_ret
        exact ⟨by rfl, HB1.out⟩
  · rw [show ptC xs ys = 2 by unfold ptC; rw [if_pos h1]]
    have t1 : ((xs.length : Int) != (ys.length : Int)) = true := by rw [bne_iff_ne]; omega
    obtain ⟨n, hn⟩ : ∃ n, n = xs.length := ⟨_, rfl⟩
    obtain ⟨m, hm⟩ : ∃ m, m = ys.length := ⟨_, rfl⟩
    rw [← hn, ← hm] at t1 h1 ⊢
    clear hr1 hr2 hn hm
    go_enter Tryz.func77, Tryz.ntmps77
    go_wp2
    go_ret
    exact ⟨by rfl, Below.refl _ _⟩
end Go.Proofs.YtpmnhdgajkickaaGreatDoor
