/- values of pairs of a head (both). Printed by wip/gen_head.py. -/
import Derived.Test.YthfloagpmmohkaaGreatDoorHedB
import Derived.Shelf.Strings.SlTrimAscii
namespace Go.Proofs.YthfloagpmmohkaaGreatDoor
open Go Go.RowKit Go.Proofs

/-- begins or ends with a blank -/
def edge (l : List UInt8) : Bool := match l.head?, l.getLast? with
  | some x, some y => Cr.isBlk x || Cr.isBlk y
  | _, _ => false
def valueOk (l : List UInt8) : Bool := l.all Cr.inTxt && (decide (l.length ≤ 8000) && !edge l)
theorem dropWhile_len (p : UInt8 → Bool) : ∀ l : List UInt8, (l.dropWhile p).length ≤ l.length
  | [] => Nat.le_refl _
  | x :: l => by
    rw [List.dropWhile_cons]
    split
    · have := dropWhile_len p l
      simp only [List.length_cons]
      omega
    · exact Nat.le_refl _
theorem dropWhile_self (p : UInt8 → Bool) (l : List UInt8) : (l.dropWhile p).length = l.length ↔ ∀ x, l.head? = some x → p x = false := by
  cases l with
  | nil => simp
  | cons x l =>
    rw [List.dropWhile_cons]
    have := dropWhile_len p l
    constructor
    · intro h y hy
      obtain rfl : x = y := by simpa using hy
      cases hp : p x with
      | false => rfl
      | true =>
        rw [hp] at h
        simp only [if_true, List.length_cons] at h
        omega
    · intro h
      rw [h x rfl]
      rfl
theorem dropWhile_eq (p : UInt8 → Bool) (l : List UInt8) (h : ∀ x, l.head? = some x → p x = false) : l.dropWhile p = l := by
  cases l with
  | nil => rfl
  | cons x l => rw [List.dropWhile_cons, h x rfl]; rfl
theorem blk_set (b : UInt8) : ([32, 9] : List UInt8).contains b = Cr.isBlk b := by
  unfold Cr.isBlk
  refine Bool.eq_iff_iff.2 ?_
  simp only [List.contains_cons, List.contains_nil, Bool.or_false, Bool.or_eq_true, beq_iff_eq, decide_eq_true_eq]
  constructor
  · rintro (h | h) <;> simp [h]
  · rintro (h | h)
    · exact .inl (UInt8.toNat_inj.1 h)
    · exact .inr (UInt8.toNat_inj.1 h)
theorem trim_edge (l : List UInt8) : (Lib.trimS l [32, 9] = l) ↔ edge l = false := by
  have e : Lib.trimS l [32, 9] = (l.reverse.dropWhile Cr.isBlk).reverse.dropWhile Cr.isBlk := by
    unfold Lib.trimS Lib.trimLeftS Lib.trimRightS
    congr 2
    · funext b; exact blk_set b
    · congr 1
      funext b
      exact blk_set b
  rw [e]
  unfold edge
  constructor
  · intro h
    have h1 := congrArg List.length h
    have h2 := dropWhile_len Cr.isBlk (l.reverse.dropWhile Cr.isBlk).reverse
    have h3 := dropWhile_len Cr.isBlk l.reverse
    simp only [List.length_reverse] at h2 h3
    have h4 : (l.reverse.dropWhile Cr.isBlk).length = l.reverse.length := by rw [List.length_reverse]; omega
    have h5 := (dropWhile_self Cr.isBlk l.reverse).1 h4
    rw [dropWhile_eq _ _ h5, List.reverse_reverse] at h
    have h6 := (dropWhile_self Cr.isBlk l).1 (congrArg List.length h)
    split
    · rename_i x y hx hy
      rw [h6 x hx, h5 y (by rw [List.head?_reverse]; exact hy)]
      rfl
    · rfl
  · intro h
    cases l with
    | nil => rfl
    | cons x l =>
      obtain ⟨y, hy⟩ : ∃ y, (x :: l).getLast? = some y := ⟨_, List.getLast?_eq_some_getLast (by simp)⟩
      rw [hy] at h
      simp only [List.head?_cons, Bool.or_eq_false_iff] at h
      have e1 : (x :: l).reverse.dropWhile Cr.isBlk = (x :: l).reverse := dropWhile_eq _ _ (fun z hz => by rw [List.head?_reverse, hy] at hz; cases hz; exact h.2)
      rw [e1, List.reverse_reverse]
      exact dropWhile_eq _ _ (fun z hz => by cases hz; exact h.1)
theorem trimW_any (l : List UInt8) (w : World) (hl : l.length ≤ 9223372036854775807) : Calls Tryz.prog 128 #[tx l, .string ⟨#[32, 9]⟩] w fun e w' => e = .returned (tx (Lib.trimS l [32, 9])) ∧ Below w.heap.size w w' :=
  Any.strings_Trim_laid Tryz.lays160 (by kernel_rfl) ⟨l.toArray⟩ ⟨#[32, 9]⟩ w hl (by decide) (ascii_of_all (by decide))
set_option maxHeartbeats 2000000 in
set_option maxRecDepth 100000 in
theorem valueForm_any (l : List UInt8) (w : World) (hl : l.length ≤ 140737488355328) : Calls Tryz.prog 91 #[tx l] w fun e w' => e = .returned (.bool (valueOk l)) ∧ Below w.heap.size w w' := by
  obtain ⟨n, hn⟩ : ∃ n, n = l.length := ⟨_, rfl⟩
  rw [← hn] at hl
  have HN := Lib.hid hn
  clear hn
  go_enter Tryz.func91, Tryz.ntmps91
  go_wp2
  go_loopw [2, 3, 6] (fun _ _ i wr => wr = w ∧ ∃ k : Nat, k ≤ n ∧ i = .int .i64 k ∧ (l.take k).all Cr.inTxt = true) (fun _ _ i _ => n - (intOf i).toNat)
  case atStart => exact ⟨rfl, 0, Nat.zero_le _, rfl, rfl⟩
  case round =>
    obtain ⟨rfl, k, hk, rfl, ha⟩ := hrel
    have HA := Lib.hid ha
    clear ha
    by_cases hlt : k < n
    · have d1 : decide ((k : Int) < (l.length : Int)) = true := decide_eq_true (by rw [← HN.out]; omega)
      have g1 : decide (k < l.length) = true := decide_eq_true (by rw [← HN.out]; omega)
      obtain ⟨x, hx⟩ : ∃ x, l[k]? = some x := ⟨_, List.getElem?_eq_getElem (by rw [← HN.out]; exact hlt)⟩
      have hix := tx_index l k x hx
      have HX := Lib.hid hx
      clear hx
      cases hp : Cr.inTxt x with
      | true =>
        have HS := Lib.hid (show (l.take (k + 1)).all Cr.inTxt = true by
          rw [List.take_add_one, HX.out]
          simp [HA.out, hp])
        have HC := inText_any x wr
        rw [hp] at HC
        have HC := Lib.hid HC
        clear hp
        go_wp2_with fail
        (with_reducible refine (HC.out).mono ?_)
        rintro e w2 ⟨rfl, rfl⟩
        go_wp2
        go_roundw
        case rel => exact ⟨by trivial, k + 1, by omega, by go_num, HS.out⟩
        case measure => simp [intOf]; omega
      | false =>
        have E := Lib.hid (show l.all Cr.inTxt = false by
          rw [Bool.eq_false_iff]
          intro q
          have := List.all_eq_true.1 q x (List.mem_of_getElem? HX.out)
          rw [hp] at this
          cases this)
        have HC := inText_any x wr
        rw [hp] at HC
        have HC := Lib.hid HC
        clear hp
        go_wp2_with fail
        (with_reducible refine (HC.out).mono ?_)
        rintro e w2 ⟨rfl, rfl⟩
        have EN := Lib.hid (show valueOk l = false by unfold valueOk; rw [E.out]; rfl)
        go_wp2
        go_ret
        rw [EN.out]
        exact ⟨rfl, Below.refl _ _⟩
    · have d1 : decide ((k : Int) < (l.length : Int)) = false := decide_eq_false (by rw [← HN.out]; omega)
      have g1 : decide (k < l.length) = false := decide_eq_false (by rw [← HN.out]; omega)
      have E := Lib.hid (show l.all Cr.inTxt = true by have := HA.out; rwa [List.take_of_length_le (by rw [← HN.out]; omega)] at this)
      clear hlt
      by_cases h100 : n ≤ 8000
      · have d3 : decide ((l.length : Int) ≤ 8000) = true := decide_eq_true (by rw [← HN.out]; omega)
        have d4 : decide (l.length ≤ 8000) = true := decide_eq_true (by rw [← HN.out]; omega)
        have HTR := Lib.hid (trimW_any l wr (by rw [← HN.out]; omega))
        obtain ⟨t, ht⟩ : ∃ t, t = Lib.trimS l [32, 9] := ⟨_, rfl⟩
        have HTE := Lib.hid (trim_edge l)
        rw [← ht] at HTR HTE
        have HTR := Lib.hid HTR.out
        have EN0 := Lib.hid (show valueOk l = !edge l by unfold valueOk; rw [E.out, d4]; rfl)
        clear h100 ht
        go_wp2_with fail
        (with_reducible refine (HTR.out).mono ?_)
        rintro e w2 ⟨rfl, hb2⟩
        have HB2 := Lib.hid hb2
        clear hb2
        by_cases he : t = l
        · have h1 : (t == l) = true := by rw [he]; simp
          have EN := Lib.hid (show valueOk l = true by rw [EN0.out, HTE.out.1 he]; rfl)
          clear he
          go_wp2
          go_ret
          rw [EN.out]
          exact ⟨rfl, HB2.out⟩
        · have h1 : (t == l) = false := by simpa using he
          have EN := Lib.hid (show valueOk l = false by
            rw [EN0.out]
            cases hq : edge l with
            | true => rfl
            | false => exact absurd (HTE.out.2 hq) he)
          clear he
          go_wp2
          go_ret
          rw [EN.out]
          exact ⟨rfl, HB2.out⟩
      · have d3 : decide ((l.length : Int) ≤ 8000) = false := decide_eq_false (by rw [← HN.out]; omega)
        have d4 : decide (l.length ≤ 8000) = false := decide_eq_false (by rw [← HN.out]; omega)
        have EN := Lib.hid (show valueOk l = false by unfold valueOk; rw [d4]; simp)
        clear h100
        go_wp2
        go_ret
        rw [EN.out]
        exact ⟨rfl, Below.refl _ _⟩
set_option maxHeartbeats 2000000 in
set_option maxRecDepth 100000 in
theorem rvalueFault_any (l : List UInt8) (w : World) (hl : l.length ≤ 140737488355328) : Calls Tryz.prog 94 #[tx l] w fun e w' => e = .returned (.bool (!valueOk l)) ∧ w = w' := by
  have HE := Lib.hid (tx_ne l)
  by_cases h8 : 8000 < l.length
  · have d3 : decide ((8000 : Int) < (l.length : Int)) = true := decide_eq_true (by omega)
    have d4 : decide (8000 < l.length) = true := decide_eq_true h8
    have EN := Lib.hid (show (!valueOk l) = true by unfold valueOk; rw [decide_eq_false (show ¬ l.length ≤ 8000 by omega)]; simp)
    clear h8
    go_enter Tryz.func94, Tryz.ntmps94
    go_wp2
    go_ret
    rw [EN.out]
    exact ⟨rfl, rfl⟩
  · have d3 : decide ((8000 : Int) < (l.length : Int)) = false := decide_eq_false (by omega)
    have d4 : decide (8000 < l.length) = false := decide_eq_false h8
    have D8 := Lib.hid (show decide (l.length ≤ 8000) = true from decide_eq_true (by omega))
    clear h8
    obtain ⟨n, hn⟩ : ∃ n, n = l.length := ⟨_, rfl⟩
    rw [← hn] at hl
    have HN := Lib.hid hn
    clear hn
    go_enter Tryz.func94, Tryz.ntmps94
    go_wp2
    go_loopw [2, 3] (fun _ i wr => wr = w ∧ ∃ k : Nat, k ≤ n ∧ i = .int .i64 k ∧ (l.take k).all Cr.inTxt = true) (fun _ i _ => n - (intOf i).toNat)
    case atStart => exact ⟨rfl, 0, Nat.zero_le _, rfl, rfl⟩
    case round =>
      obtain ⟨rfl, k, hk, rfl, ha⟩ := hrel
      have HA := Lib.hid ha
      clear ha
      by_cases hlt : k < n
      · have d1 : decide ((k : Int) < (l.length : Int)) = true := decide_eq_true (by rw [← HN.out]; omega)
        have g1 : decide (k < l.length) = true := decide_eq_true (by rw [← HN.out]; omega)
        obtain ⟨x, hx⟩ : ∃ x, l[k]? = some x := ⟨_, List.getElem?_eq_getElem (by rw [← HN.out]; exact hlt)⟩
        have hix := tx_index l k x hx
        have HX := Lib.hid hx
        clear hx
        cases hp : Cr.inTxt x with
        | true =>
          have HS := Lib.hid (show (l.take (k + 1)).all Cr.inTxt = true by
            rw [List.take_add_one, HX.out]
            simp [HA.out, hp])
          have hq : (32 ≤ x.toNat ∧ x.toNat ≤ 126) ∨ x.toNat = 9 := by simpa [Cr.inTxt] using hp
          clear hp
          by_cases q32 : x.toNat < 32
          · have e1 : decide (x.toNat < 32) = true := decide_eq_true q32
            have e2 : decide ((x.toNat : Int) < 32) = true := decide_eq_true (by omega)
            have e3 : ((x.toNat : Int) == 9) = true := by simp; omega
            clear hq q32
            go_wp2
            go_roundw
            case rel => exact ⟨by trivial, k + 1, by omega, by go_num, HS.out⟩
            case measure => simp [intOf]; omega
          · have e1 : decide (x.toNat < 32) = false := decide_eq_false q32
            have e2 : decide ((x.toNat : Int) < 32) = false := decide_eq_false (by omega)
            have e3 : decide (126 < x.toNat) = false := decide_eq_false (by omega)
            have e4 : decide ((126 : Int) < (x.toNat : Int)) = false := decide_eq_false (by omega)
            clear hq q32
            go_wp2
            go_roundw
            case rel => exact ⟨by trivial, k + 1, by omega, by go_num, HS.out⟩
            case measure => simp [intOf]; omega
        | false =>
          have E := Lib.hid (show l.all Cr.inTxt = false by
            rw [Bool.eq_false_iff]
            intro q
            have := List.all_eq_true.1 q x (List.mem_of_getElem? HX.out)
            rw [hp] at this
            cases this)
          have hq : ¬ ((32 ≤ x.toNat ∧ x.toNat ≤ 126) ∨ x.toNat = 9) := fun q => by
            have h9 : Cr.inTxt x = true := by simpa [Cr.inTxt] using q
            rw [hp] at h9
            cases h9
          clear hp
          have e5 : ((x.toNat : Int) == 9) = false := by simp; omega
          have EN := Lib.hid (show (!valueOk l) = true by unfold valueOk; rw [E.out]; rfl)
          by_cases q32 : x.toNat < 32
          · have e1 : decide (x.toNat < 32) = true := decide_eq_true q32
            have e2 : decide ((x.toNat : Int) < 32) = true := decide_eq_true (by omega)
            clear hq q32
            go_wp2
            go_ret
            rw [EN.out]
            exact ⟨rfl, rfl⟩
          · have e1 : decide (x.toNat < 32) = false := decide_eq_false q32
            have e2 : decide ((x.toNat : Int) < 32) = false := decide_eq_false (by omega)
            have e3 : decide (126 < x.toNat) = true := decide_eq_true (by omega)
            have e4 : decide ((126 : Int) < (x.toNat : Int)) = true := decide_eq_true (by omega)
            clear hq q32
            go_wp2
            go_ret
            rw [EN.out]
            exact ⟨rfl, rfl⟩
      · have d1 : decide ((k : Int) < (l.length : Int)) = false := decide_eq_false (by rw [← HN.out]; omega)
        have g1 : decide (k < l.length) = false := decide_eq_false (by rw [← HN.out]; omega)
        have E := Lib.hid (show l.all Cr.inTxt = true by have := HA.out; rwa [List.take_of_length_le (by rw [← HN.out]; omega)] at this)
        clear hlt
        cases he : l.isEmpty with
        | true =>
          have h1 := HE.out
          rw [he] at h1
          have EN := Lib.hid (show (!valueOk l) = false by
            have : l = [] := List.isEmpty_iff.1 he
            rw [this]
            decide)
          go_wp2
          go_ret
          rw [EN.out]
          exact ⟨rfl, rfl⟩
        | false =>
          have h1 := HE.out
          rw [he] at h1
          have hne : l ≠ [] := fun e => by rw [e] at he; cases he
          obtain ⟨x, hx⟩ : ∃ x, l.head? = some x := ⟨_, List.head?_eq_some_head hne⟩
          obtain ⟨y, hy⟩ : ∃ y, l.getLast? = some y := ⟨_, List.getLast?_eq_some_getLast hne⟩
          have hx0 : l[0]? = some x := by rw [← hx, List.head?_eq_getElem?]
          have hyn : l[n - 1]? = some y := by rw [← hy, List.getLast?_eq_getElem?, ← HN.out]
          have hpos : 0 < n := by rw [HN.out]; exact List.length_pos_iff.2 hne
          have hi0 : ∀ W, (Instr.index 9 (tx l) (.int .i64 0)).run Tryz.prog W = .ok (.int .u8 (x.toNat : Int)) W := tx_index l 0 x hx0
          have hin1 : (l.length : Int) - 1 = ((n - 1 : Nat) : Int) := by rw [← HN.out]; omega
          have hin : ∀ W, (Instr.index 9 (tx l) (.int .i64 ((l.length : Int) - 1))).run Tryz.prog W = .ok (.int .u8 (y.toNat : Int)) W := by rw [hin1]; exact tx_index l (n - 1) y hyn
          have hnl : l.length ≤ 140737488355328 := by rw [← HN.out]; exact hl
          have EN0 := Lib.hid (show (!valueOk l) = (Cr.isBlk x || Cr.isBlk y) by
            unfold valueOk edge
            rw [E.out, hx, hy, D8.out]
            simp)
          have HX := Lib.hid (rblank_any x wr)
          have HY := Lib.hid (rblank_any y wr)
          obtain ⟨bx, hbx⟩ : ∃ z, z = Cr.isBlk x := ⟨_, rfl⟩
          obtain ⟨by_, hby⟩ : ∃ z, z = Cr.isBlk y := ⟨_, rfl⟩
          rw [← hbx] at HX EN0
          rw [← hby] at HY EN0
          have HX := Lib.hid HX.out
          have HY := Lib.hid HY.out
          clear hbx hby hx hy hx0 hyn hne hin1
          cases bx with
          | true =>
            go_wp2_with fail
            (with_reducible refine (HX.out).mono ?_)
            rintro e w2 ⟨rfl, rfl⟩
            go_wp2
            go_ret
            rw [EN0.out]
            exact ⟨by simp, rfl⟩
          | false =>
            go_wp2_with fail
            (with_reducible refine (HX.out).mono ?_)
            rintro e w2 ⟨rfl, rfl⟩
            go_wp2_with fail
            (with_reducible refine (HY.out).mono ?_)
            rintro e w2 ⟨rfl, rfl⟩
            cases by_ with
            | true => go_wp2; go_ret; rw [EN0.out]; exact ⟨rfl, rfl⟩
            | false => go_wp2; go_ret; rw [EN0.out]; exact ⟨rfl, rfl⟩
end Go.Proofs.YthfloagpmmohkaaGreatDoor
