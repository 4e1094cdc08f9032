/- a head's fault (both). Printed by wip/gen_head.py. -/
import Derived.Test.YthfloagpmmohkaaGreatDoorHedD
import Derived.Test.YthfloagpmmohkaaGreatDoorCore
namespace Go.Proofs.YthfloagpmmohkaaGreatDoor
open Go Go.RowKit Go.Proofs

/-- a pair's fault -/
def headK (p : Pr) : Int := if nameOk p.1 then (if valueOk p.2 then 0 else 2) else 8
def headFault (h : List Pr) : Int := if 100 < h.length then 3 else match h.find? (fun p => headK p != 0) with | none => 0 | some p => headK p
/-- the pairs' texts are no longer than this -/
def PrBd (h : List Pr) : Prop := ∀ p ∈ h, p.1.length ≤ 140737488355328 ∧ p.2.length ≤ 140737488355328
theorem Rd.atP {w : World} {L B n i : Nat} {A : Option Addr} {h : List Pr} (hr : Rd w L B 2 A n (prC h)) (hi : i < n) :
    ∃ b o x y, A = some ⟨b, o, none⟩ ∧ L ≤ b ∧ b < B ∧ h[i]? = some (x, y) ∧ w.cell? ⟨b, o + i * 2, none⟩ = some (tx x) ∧ w.cell? ⟨b, o + i * 2 + 1, none⟩ = some (tx y) := by
  obtain ⟨b, o, e, hL, hB, hc⟩ := hr.2 (by omega)
  have hlen : h.length = n := by have := hr.1; rw [prC_length] at this; omega
  obtain ⟨⟨x, y⟩, hx⟩ : ∃ p, h[i]? = some p := ⟨_, List.getElem?_eq_getElem (by omega)⟩
  have key : ∀ (h : List Pr) (i : Nat) (x y : List UInt8), h[i]? = some (x, y) → (prC h)[i * 2]? = some (tx x) ∧ (prC h)[i * 2 + 1]? = some (tx y) := fun h => by
    induction h with
    | nil => intro i x y hx; simp at hx
    | cons q h ih =>
      intro i x y hx
      rcases i with _ | i
      · cases hx; exact ⟨rfl, rfl⟩
      · have := ih i x y (by simpa using hx)
        show (tx q.1 :: tx q.2 :: prC h)[(i + 1) * 2]? = _ ∧ (tx q.1 :: tx q.2 :: prC h)[(i + 1) * 2 + 1]? = _
        rw [show (i + 1) * 2 = i * 2 + 1 + 1 by omega]
        exact this
  obtain ⟨h1, h2⟩ := key h i x y hx
  exact ⟨b, o, x, y, e, hL, hB, hx, by have := hc _ _ h1; rwa [show o + i * 2 = o + i * 2 from rfl] at this, by have := hc _ _ h2; rwa [← Nat.add_assoc] at this⟩
theorem headFault_at {h : List Pr} {k : Nat} {p : Pr} (hl : ¬ 100 < h.length) (ho : (h.take k).all (fun p => headK p == 0) = true) (hp : h[k]? = some p) (hk : headK p ≠ 0) : headFault h = headK p := by
  unfold headFault
  rw [if_neg hl]
  have h1 := List.getElem?_eq_some_iff.1 hp
  have e : h = h.take k ++ p :: h.drop (k + 1) := by
    rw [← h1.2, ← List.drop_eq_getElem_cons h1.1, List.take_append_drop]
  have e2 : h.find? (fun p => headK p != 0) = some p := by
    rw [e, List.find?_append]
    have e3 : (h.take k).find? (fun p => headK p != 0) = none := by
      rw [List.find?_eq_none]
      intro q hq
      have := List.all_eq_true.1 ho q hq
      simpa using this
    rw [e3, List.find?_cons]
    have e4 : (headK p != 0) = true := by simpa using hk
    rw [e4]
    rfl
  rw [e2]
theorem headFault_end {h : List Pr} (hl : ¬ 100 < h.length) (ho : h.all (fun p => headK p == 0) = true) : headFault h = 0 := by
  unfold headFault
  rw [if_neg hl]
  have e3 : h.find? (fun p => headK p != 0) = none := by
    rw [List.find?_eq_none]
    intro q hq
    have := List.all_eq_true.1 ho q hq
    simpa using this
  rw [e3]
set_option maxHeartbeats 2000000 in
set_option maxRecDepth 100000 in
theorem checkHead_any (A : Option Addr) (n c : Nat) (h : List Pr) (w : World) (hr : Rd w 0 w.heap.size 2 A n (prC h)) (hb : PrBd h) (hn : n ≤ 140737488355328) : Calls Tryz.prog 43 #[.slice A n c] w fun e w' => e = .returned (.int .i64 (headFault h)) ∧ Below w.heap.size w w' := by
  have hlen : h.length = n := by have := hr.1; rw [prC_length] at this; omega
  have HR := Lib.hid hr
  have HB := Lib.hid hb
  have HL := Lib.hid hlen
  clear hr hb hlen
  by_cases h1 : 100 < n
  · have d1 : decide ((100 : Int) < (n : Int)) = true := decide_eq_true (by omega)
    have d2 : decide (100 < n) = true := decide_eq_true h1
    have E := Lib.hid (show headFault h = 3 by unfold headFault; rw [if_pos (by rw [HL.out]; exact h1)])
    clear h1
    go_enter Tryz.func43, Tryz.ntmps43
    go_wp2
    go_ret
    rw [E.out]
    exact ⟨rfl, Below.refl _ _⟩
  · have d1 : decide ((100 : Int) < (n : Int)) = false := decide_eq_false (by omega)
    have d2 : decide (100 < n) = false := decide_eq_false h1
    have H1 := Lib.hid (show ¬ 100 < h.length by rw [HL.out]; exact h1)
    clear h1
    go_enter Tryz.func43, Tryz.ntmps43
    go_wp2
    go_loopw [2, 4, 10] (fun _ _ i wr => ∃ k : Nat, k ≤ n ∧ i = .int .i64 k ∧ (h.take k).all (fun p => headK p == 0) = true ∧ Below w.heap.size w wr) (fun _ _ i _ => n - (intOf i).toNat)
    case atStart => exact ⟨0, Nat.zero_le _, rfl, rfl, Below.refl _ _⟩
    case round =>
      obtain ⟨k, hk, rfl, ho, hbw⟩ := hrel
      have HO := Lib.hid ho
      have HBW := Lib.hid hbw
      have hwr := hbw.size
      clear ho
      by_cases hlt : k < n
      · obtain ⟨bk, o, x, y, rfl, _, hbk, hx, c0, c1⟩ := (HR.out.below hbw (Nat.le_refl _)).atP hlt
        have hbd := HB.out (x, y) (List.mem_of_getElem? hx)
        have HX := Lib.hid hx
        have HN := Lib.hid (fun W => nameForm_any x W hbd.1)
        have HV := Lib.hid (fun W => valueForm_any y W hbd.2)
        have HBA := Lib.hid (fun ob => hbw.alloc hbw.size ob)
        clear hx hbw hbd
        cases hno : nameOk x with
        | false =>
          rw [hno] at HN
          have HN := Lib.hid HN.out
          have E := Lib.hid (show headFault h = 8 by
            have h9 : headK (x, y) = 8 := by unfold headK; rw [hno]; rfl
            rw [headFault_at H1.out HO.out HX.out (by rw [h9]; decide), h9])
          clear hno
          go_wp2_with fail
          (with_reducible refine (HN.out _).mono ?_)
          rintro e w3 ⟨rfl, rfl⟩
          go_wp2
          go_ret
          rw [E.out]
          exact ⟨rfl, HBA.out _⟩
        | true =>
          rw [hno] at HN
          have HN := Lib.hid HN.out
          cases hvo : valueOk y with
          | false =>
            rw [hvo] at HV
            have HV := Lib.hid HV.out
            have E := Lib.hid (show headFault h = 2 by
              have h9 : headK (x, y) = 2 := by unfold headK; rw [hno, hvo]; rfl
              rw [headFault_at H1.out HO.out HX.out (by rw [h9]; decide), h9])
            clear hno hvo
            go_wp2_with fail
            (with_reducible refine (HN.out _).mono ?_)
            rintro e w3 ⟨rfl, rfl⟩
            go_wp2_with fail
            (with_reducible refine (HV.out _).mono ?_)
            rintro e w3 ⟨rfl, hb3⟩
            go_wp2
            go_ret
            rw [E.out]
            exact ⟨rfl, (HBA.out _).trans (hb3.mono (by simp; omega))⟩
          | true =>
            rw [hvo] at HV
            have HV := Lib.hid HV.out
            have HS := Lib.hid (show (h.take (k + 1)).all (fun p => headK p == 0) = true by
              have h9 : headK (x, y) = 0 := by unfold headK; rw [hno, hvo]; rfl
              rw [List.take_add_one, HX.out, List.all_append, HO.out]
              show (true && ((headK (x, y) == 0) && true)) = true
              rw [h9]
              rfl)
            clear hno hvo
            go_wp2_with fail
            (with_reducible refine (HN.out _).mono ?_)
            rintro e w3 ⟨rfl, rfl⟩
            go_wp2_with fail
            (with_reducible refine (HV.out _).mono ?_)
            rintro e w3 ⟨rfl, hb3⟩
            go_wp2
            go_roundw
            case rel => exact ⟨k + 1, by omega, by go_num, HS.out, (HBA.out _).trans (hb3.mono (by simp; omega))⟩
            case measure => simp [intOf]; omega
      · have E := Lib.hid (show headFault h = 0 from headFault_end H1.out (by have := HO.out; rwa [List.take_of_length_le (by rw [HL.out]; omega)] at this))
        go_wp2
        go_ret
        rw [E.out]
        exact ⟨rfl, HBW.out⟩
set_option maxHeartbeats 2000000 in
set_option maxRecDepth 100000 in
theorem rHeadFault_any (A : Option Addr) (n c : Nat) (h : List Pr) (w : World) (hr : Rd w 0 w.heap.size 2 A n (prC h)) (hb : PrBd h) (hn : n ≤ 140737488355328) : Calls Tryz.prog 45 #[.slice A n c] w fun e w' => e = .returned (.int .i64 (headFault h)) ∧ Below w.heap.size w w' := by
  have hlen : h.length = n := by have := hr.1; rw [prC_length] at this; omega
  have HR := Lib.hid hr
  have HB := Lib.hid hb
  have HL := Lib.hid hlen
  clear hr hb hlen
  by_cases h1 : 100 < n
  · have d1 : decide ((100 : Int) < (n : Int)) = true := decide_eq_true (by omega)
    have d2 : decide (100 < n) = true := decide_eq_true h1
    have E := Lib.hid (show headFault h = 3 by unfold headFault; rw [if_pos (by rw [HL.out]; exact h1)])
    clear h1
    go_enter Tryz.func45, Tryz.ntmps45
    go_wp2
    go_ret
    rw [E.out]
    exact ⟨rfl, Below.refl _ _⟩
  · have d1 : decide ((100 : Int) < (n : Int)) = false := decide_eq_false (by omega)
    have d2 : decide (100 < n) = false := decide_eq_false h1
    have H1 := Lib.hid (show ¬ 100 < h.length by rw [HL.out]; exact h1)
    clear h1
    go_enter Tryz.func45, Tryz.ntmps45
    go_wp2
    go_loopw [2, 3] (fun _ i wr => ∃ k : Nat, k ≤ n ∧ i = .int .i64 k ∧ (h.take k).all (fun p => headK p == 0) = true ∧ Below w.heap.size w wr) (fun _ i _ => n - (intOf i).toNat)
    case atStart => exact ⟨0, Nat.zero_le _, rfl, rfl, Below.refl _ _⟩
    case round =>
      obtain ⟨k, hk, rfl, ho, hbw⟩ := hrel
      have HO := Lib.hid ho
      have HBW := Lib.hid hbw
      have hwr := hbw.size
      clear ho
      by_cases hlt : k < n
      · obtain ⟨bk, o, x, y, rfl, _, hbk, hx, c0, c1⟩ := (HR.out.below hbw (Nat.le_refl _)).atP hlt
        have hbd := HB.out (x, y) (List.mem_of_getElem? hx)
        have HX := Lib.hid hx
        have HN := Lib.hid (fun W => rToken_any x W hbd.1)
        have HV := Lib.hid (fun W => rvalueFault_any y W hbd.2)
        clear hx hbw hbd
        cases hno : nameOk x with
        | false =>
          rw [hno] at HN
          have HN := Lib.hid HN.out
          have E := Lib.hid (show headFault h = 8 by
            have h9 : headK (x, y) = 8 := by unfold headK; rw [hno]; rfl
            rw [headFault_at H1.out HO.out HX.out (by rw [h9]; decide), h9])
          clear hno
          go_wp2_with fail
          (with_reducible refine (HN.out _).mono ?_)
          rintro e w3 ⟨rfl, rfl⟩
          go_wp2
          go_ret
          rw [E.out]
          exact ⟨rfl, HBW.out⟩
        | true =>
          rw [hno] at HN
          have HN := Lib.hid HN.out
          cases hvo : valueOk y with
          | false =>
            rw [hvo] at HV
            have HV := Lib.hid HV.out
            have E := Lib.hid (show headFault h = 2 by
              have h9 : headK (x, y) = 2 := by unfold headK; rw [hno, hvo]; rfl
              rw [headFault_at H1.out HO.out HX.out (by rw [h9]; decide), h9])
            clear hno hvo
            go_wp2_with fail
            (with_reducible refine (HN.out _).mono ?_)
            rintro e w3 ⟨rfl, rfl⟩
            go_wp2_with fail
            (with_reducible refine (HV.out _).mono ?_)
            rintro e w3 ⟨rfl, rfl⟩
            go_wp2
            go_ret
            rw [E.out]
            exact ⟨rfl, HBW.out⟩
          | true =>
            rw [hvo] at HV
            have HV := Lib.hid HV.out
            have HS := Lib.hid (show (h.take (k + 1)).all (fun p => headK p == 0) = true by
              have h9 : headK (x, y) = 0 := by unfold headK; rw [hno, hvo]; rfl
              rw [List.take_add_one, HX.out, List.all_append, HO.out]
              show (true && ((headK (x, y) == 0) && true)) = true
              rw [h9]
              rfl)
            clear hno hvo
            go_wp2_with fail
            (with_reducible refine (HN.out _).mono ?_)
            rintro e w3 ⟨rfl, rfl⟩
            go_wp2_with fail
            (with_reducible refine (HV.out _).mono ?_)
            rintro e w3 ⟨rfl, rfl⟩
            go_wp2
            go_roundw
            case rel => exact ⟨k + 1, by omega, by go_num, HS.out, HBW.out⟩
            case measure => simp [intOf]; omega
      · have E := Lib.hid (show headFault h = 0 from headFault_end H1.out (by have := HO.out; rwa [List.take_of_length_le (by rw [HL.out]; omega)] at this))
        go_wp2
        go_ret
        rw [E.out]
        exact ⟨rfl, HBW.out⟩
end Go.Proofs.YthfloagpmmohkaaGreatDoor
