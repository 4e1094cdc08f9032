import Derived.Test.YtepfmoaihhonlaaGreatDoorGPlain
import Derived.Test.YtepfmoaihhonlaaGreatDoorSt
import Derived.Test.YtepfmoaihhonlaaGreatDoorRows
import Derived.Test.YtepfmoaihhonlaaGreatDoorProg
import Derived.Handy
import Derived.WalkSpells
import Derived.WalkLawsBesides
import Derived.Deep.QuietTactic
import Derived.BigQuiet
/- Package load: stages in memory; Check, length. -/
namespace Go.Proofs.YtepfmoaihhonlaaGreatDoor
open Go Go.RowKit Go.Proofs

/-- stages as cells -/
def cells3 : List (Int × Int × Int) → List Value
  | [] => []
  | s :: r => .int .i64 s.1 :: .int .i64 s.2.1 :: .int .i64 s.2.2 :: cells3 r
theorem cells3_length : ∀ l : List (Int × Int × Int), (cells3 l).length = l.length * 3
  | [] => rfl
  | s :: r => by simp [cells3, cells3_length r]; omega
theorem cells3_get {l : List (Int × Int × Int)} {i : Nat} {s : Int × Int × Int} (h : l[i]? = some s) : (cells3 l)[i * 3]? = some (.int .i64 s.1) ∧ (cells3 l)[i * 3 + 1]? = some (.int .i64 s.2.1) ∧ (cells3 l)[i * 3 + 2]? = some (.int .i64 s.2.2) := by
  induction l generalizing i with
  | nil => simp at h
  | cons c l ih =>
    rcases i with _ | i
    · simp at h; subst h; simp [cells3]
    · have := ih (i := i) (by simpa using h)
      have e1 : (i + 1) * 3 = i * 3 + 1 + 1 + 1 := by omega
      rw [e1]
      simpa [cells3] using this
theorem Rd.at3 {w : World} {L B n i : Nat} {A : Option Addr} {l : List (Int × Int × Int)} (h : Rd w L B 3 A n (cells3 l)) (hi : i < n) :
    ∃ b o F x y, A = some ⟨b, o, none⟩ ∧ L ≤ b ∧ b < B ∧ l[i]? = some (F, x, y) ∧ w.cell? ⟨b, o + i * 3, none⟩ = some (.int .i64 F) ∧ w.cell? ⟨b, o + i * 3 + 1, none⟩ = some (.int .i64 x) ∧ w.cell? ⟨b, o + i * 3 + 2, none⟩ = some (.int .i64 y) := by
  obtain ⟨b, o, e, hl, hb, hc⟩ := h.2 (by omega)
  have hlen : l.length = n := by have := h.1; rw [cells3_length] at this; omega
  obtain ⟨⟨F, x, y⟩, hx⟩ : ∃ p, l[i]? = some p := ⟨l[i]'(by omega), List.getElem?_eq_getElem (by omega)⟩
  have hg := cells3_get hx
  exact ⟨b, o, F, x, y, e, hl, hb, hx, hc _ _ hg.1, by have := hc _ _ hg.2.1; rwa [← Nat.add_assoc] at this, by have := hc _ _ hg.2.2; rwa [← Nat.add_assoc] at this⟩
/-- a stage within the limits -/
def OkS (s : Int × Int × Int) : Prop := 1 ≤ s.1 ∧ s.1 ≤ 100000000000 ∧ 0 ≤ s.2.1 ∧ s.2.1 ≤ 1000000000 ∧ 0 ≤ s.2.2 ∧ s.2.2 ≤ 1000000000
instance (s : Int × Int × Int) : Decidable (OkS s) := inferInstanceAs (Decidable (_ ∧ _))
def lenS (l : List (Int × Int × Int)) : Int := (l.map (·.1)).sum
theorem lenS_take {l : List (Int × Int × Int)} {i : Nat} {s : Int × Int × Int} (h : l[i]? = some s) : lenS (l.take (i + 1)) = lenS (l.take i) + s.1 := by
  rw [List.take_add_one, h]; simp [lenS]
theorem lenS_bd {l : List (Int × Int × Int)} (h : ∀ s ∈ l, OkS s) : l.length ≤ lenS l ∧ lenS l ≤ l.length * 100000000000 := by
  induction l with
  | nil => simp [lenS]
  | cons c l ih =>
    have := ih (fun x hx => h x (by simp [hx]))
    have h1 := h c (by simp)
    unfold OkS at h1
    simp only [lenS, List.map_cons, List.sum_cons, List.length_cons] at *
    omega
/-- what Check returns -/
def codeS (l : List (Int × Int × Int)) : Int := if l.length = 0 then 13 else if 50 < l.length then 3 else if ∀ s ∈ l, OkS s then (if 1000000000000 < lenS l then 3 else 0) else 9
/-- a line that Check accepts -/
structure OkL (l : List (Int × Int × Int)) : Prop where
  ne : 0 < l.length
  le : l.length ≤ 50
  ok : ∀ s ∈ l, OkS s
  sum : lenS l ≤ 1000000000000
theorem codeS_ok {l : List (Int × Int × Int)} (h : codeS l = 0) : OkL l := by
  unfold codeS at h
  split at h
  · omega
  · split at h
    · omega
    · split at h
      · rename_i h3
        split at h
        · omega
        · exact ⟨by omega, by omega, h3, by omega⟩
      · omega
theorem OkL.code {l : List (Int × Int × Int)} (h : OkL l) : codeS l = 0 := by
  have h1 := h.ne; have h2 := h.le; have h3 := h.sum
  unfold codeS
  rw [if_neg (by omega), if_neg (by omega), if_pos h.ok, if_neg (by omega)]

set_option maxHeartbeats 1000000 in
theorem loadLength_any (A : Option Addr) (c : Nat) (l : List (Int × Int × Int)) (w : World) (hr : Rd w 0 w.heap.size 3 A l.length (cells3 l)) (hl : l.length ≤ 1000) (hok : ∀ s ∈ l, OkS s) :
    Calls Tryz.prog 55 #[.slice A l.length c] w fun e w' => e = .returned (.int .i64 (lenS l)) ∧ Below w.heap.size w w' := by
  have HR := Lib.hid hr
  have HC := Lib.hid hok
  clear hr hok
  go_enter Tryz.func55, Tryz.ntmps55
  go_wp2
  go_loopw [3, 5, 8] (fun s _ i wr => ∃ k : Nat, k ≤ l.length ∧ i = .int .i64 k ∧ s = .int .i64 (lenS (l.take k)) ∧ Below w.heap.size w wr) (fun _ _ i _ => l.length - (intOf i).toNat)
  case atStart => exact ⟨0, Nat.zero_le _, rfl, by simp [lenS], Below.refl _ w⟩
  case round =>
    obtain ⟨k, hk, rfl, rfl, hbw⟩ := hrel
    have hsz := hbw.size
    by_cases hlt : k < l.length
    · obtain ⟨bk, o, F, x, y, rfl, _, hbk, hx, c0, c1, c2⟩ := (HR.out.below hbw (Nat.le_refl _)).at3 hlt
      have ht := lenS_take hx
      have hb1 := lenS_bd (l := l.take k) (fun c hc => HC.out c (List.mem_of_mem_take hc))
      have hm := HC.out _ (List.mem_of_getElem? hx)
      unfold OkS at hm
      simp only [List.length_take] at hb1 hm
      have HT := Lib.hid ht
      clear ht hx
      go_wp2
      go_roundw
      case rel => exact ⟨k + 1, by omega, by go_num, by rw [HT.out], hbw.alloc (by omega) _⟩
      case measure => simp [intOf]; omega
    · go_wp2
      go_ret
      exact ⟨by rw [List.take_of_length_le (by omega)]; rfl, hbw⟩

set_option maxHeartbeats 2000000 in
set_option maxRecDepth 100000 in
theorem loadCheck_any (A : Option Addr) (c : Nat) (l : List (Int × Int × Int)) (w : World) (hr : Rd w 0 w.heap.size 3 A l.length (cells3 l)) (hl : l.length ≤ 9223372036854775807) :
    Calls Tryz.prog 8 #[.slice A l.length c] w fun e w' => e = .returned (.int .i64 (codeS l)) ∧ Below w.heap.size w w' := by
  have HR := Lib.hid hr
  clear hr
  by_cases h0 : l.length = 0
  · have HE := Lib.hid (show codeS l = 13 by unfold codeS; rw [if_pos h0])
    have t0 : ((l.length : Int) == 0) = true := by rw [h0]; rfl
    have HL0 := Lib.hid h0
    clear h0
    go_enter Tryz.func8, Tryz.ntmps8
    go_wp2
    go_ret
    exact ⟨by rw [HE.out]; rfl, Below.refl _ _⟩
  · have t0 : ((l.length : Int) == 0) = false := by simp; intro h; exact h0 (by rw [h]; rfl)
    by_cases h1 : 50 < l.length
    · have HE := Lib.hid (show codeS l = 3 by unfold codeS; rw [if_neg h0, if_pos h1])
      go_enter Tryz.func8, Tryz.ntmps8
      go_wp2
      go_ret
      exact ⟨by rw [HE.out]; rfl, Below.refl _ _⟩
    · have HE := Lib.hid (show codeS l = if ∀ s ∈ l, OkS s then (if 1000000000000 < lenS l then 3 else 0) else 9 by unfold codeS; rw [if_neg h0, if_neg h1])
      go_enter Tryz.func8, Tryz.ntmps8
      go_wp2
      go_loopw [4, 15] (fun _ i wr => ∃ k : Nat, k ≤ l.length ∧ i = .int .i64 k ∧ (∀ s ∈ l.take k, OkS s) ∧ Below w.heap.size w wr) (fun _ i _ => l.length - (intOf i).toNat)
      case atStart => exact ⟨0, Nat.zero_le _, rfl, by simp, Below.refl _ w⟩
      case round =>
        obtain ⟨k, hk, rfl, hok, hbw⟩ := hrel
        have hsz := hbw.size
        have HOK := Lib.hid hok
        clear hok
        by_cases hlt : k < l.length
        · obtain ⟨bk, o, F, x, y, rfl, _, hbk, hx, c0, c1, c2⟩ := (HR.out.below hbw (Nat.le_refl _)).at3 hlt
          by_cases hm : OkS (F, x, y)
          · have HN := Lib.hid (show ∀ s ∈ l.take (k + 1), OkS s by
              rw [List.take_add_one, hx]
              intro s hs
              rcases List.mem_append.1 hs with h | h
              · exact HOK.out s h
              · simp at h; rw [h]; exact hm)
            unfold OkS at hm
            simp only at hm
            obtain ⟨m1, m2, m3, m4, m5, m6⟩ := hm
            clear hx
            go_wp2
            go_roundw
            case rel => exact ⟨k + 1, by omega, by go_num, HN.out, hbw.alloc (by omega) _⟩
            case measure => simp [intOf]; omega
          · have HB := Lib.hid (show codeS l = 9 by
              rw [HE.out, if_neg]
              intro h
              exact hm (h _ (List.mem_of_getElem? hx)))
            have HM := Lib.hid hm
            clear hx hm
            have hb2 : Below w.heap.size w (wr.alloc (.cells #[.int .i64 F, .int .i64 x, .int .i64 y] 86)) := hbw.alloc (by omega) _
            have HB2 := Lib.hid hb2
            clear hb2
            go_wp2
            all_goals first
              | (go_ret; exact ⟨by rw [HB.out]; rfl, HB2.out⟩)
              | (exfalso; refine HM.out ⟨?_, ?_, ?_, ?_, ?_, ?_⟩ <;> dsimp only <;> omega)
        · have hall : ∀ s ∈ l, OkS s := by
            have := HOK.out
            rwa [List.take_of_length_le (by omega)] at this
          have HC := Lib.hid (loadLength_any A c l wr (HR.out.old hbw) (by omega) hall)
          have HE2 := Lib.hid (show codeS l = if 1000000000000 < lenS l then 3 else 0 by rw [HE.out, if_pos hall])
          have hbd := lenS_bd hall
          obtain ⟨S, hS⟩ : ∃ S, S = lenS l := ⟨_, rfl⟩
          rw [← hS] at HC HE2 hbd
          clear hS hall
          by_cases hS : 1000000000000 < S
          · rw [if_pos hS] at HE2
            go_wp2_with fail
            refine HC.out.mono ?_
            rintro e w' ⟨rfl, hb2⟩
            go_wp2
            go_ret
            exact ⟨by rw [HE2.out]; rfl, hbw.trans (hb2.mono hsz)⟩
          · rw [if_neg hS] at HE2
            have t5 : decide (1000000000000 < S) = false := by simpa using hS
            go_wp2_with fail
            refine HC.out.mono ?_
            rintro e w' ⟨rfl, hb2⟩
            go_wp2
            go_ret
            exact ⟨by rw [HE2.out]; rfl, hbw.trans (hb2.mono hsz)⟩
end Go.Proofs.YtepfmoaihhonlaaGreatDoor

/- Package dynamometerref7: Check, total. -/
namespace Go.Proofs.YtepfmoaihhonlaaGreatDoor
open Go Go.RowKit Go.Proofs

set_option maxHeartbeats 1000000 in
theorem r7total_any (A : Option Addr) (c : Nat) (l : List (Int × Int × Int)) (w : World) (hr : Rd w 0 w.heap.size 3 A l.length (cells3 l)) (hl : l.length ≤ 1000) (hok : ∀ s ∈ l, OkS s) :
    Calls Tryz.prog 56 #[.slice A l.length c] w fun e w' => e = .returned (.int .i64 (lenS l)) ∧ w = w' := by
  have HR := Lib.hid hr
  have HC := Lib.hid hok
  clear hr hok
  go_enter Tryz.func56, Tryz.ntmps56
  go_wp2
  go_loop [3, 4] (fun s i => ∃ k : Nat, k ≤ l.length ∧ i = .int .i64 k ∧ s = .int .i64 (lenS (l.take k))) (fun _ i => l.length - (intOf i).toNat)
  case atStart => exact ⟨0, Nat.zero_le _, rfl, by simp [lenS]⟩
  case round =>
    obtain ⟨k, hk, rfl, rfl⟩ := hrel
    by_cases hlt : k < l.length
    · obtain ⟨bk, o, F, x, y, rfl, _, hbk, hx, c0, c1, c2⟩ := HR.out.at3 hlt
      have ht := lenS_take hx
      have hb1 := lenS_bd (l := l.take k) (fun c hc => HC.out c (List.mem_of_mem_take hc))
      have hm := HC.out _ (List.mem_of_getElem? hx)
      unfold OkS at hm
      simp only [List.length_take] at hb1 hm
      have HT := Lib.hid ht
      clear ht hx
      go_wp2
      go_round
      case rel => exact ⟨k + 1, by omega, by go_num, by rw [HT.out]⟩
      case measure => simp [intOf]; omega
    · go_wp2
      go_ret
      exact ⟨by rw [List.take_of_length_le (by omega)]; rfl, rfl⟩
set_option maxHeartbeats 2000000 in
set_option maxRecDepth 100000 in
theorem r7Check_any (A : Option Addr) (c : Nat) (l : List (Int × Int × Int)) (w : World) (hr : Rd w 0 w.heap.size 3 A l.length (cells3 l)) (hl : l.length ≤ 9223372036854775807) :
    Calls Tryz.prog 9 #[.slice A l.length c] w fun e w' => e = .returned (.int .i64 (codeS l)) ∧ Below w.heap.size w w' := by
  have HR := Lib.hid hr
  clear hr
  by_cases h0 : l.length = 0
  · have HE := Lib.hid (show codeS l = 13 by unfold codeS; rw [if_pos h0])
    have t0 : ((l.length : Int) == 0) = true := by rw [h0]; rfl
    have HL0 := Lib.hid h0
    clear h0
    go_enter Tryz.func9, Tryz.ntmps9
    go_wp2
    go_ret
    exact ⟨by rw [HE.out]; rfl, Below.refl _ _⟩
  · have t0 : ((l.length : Int) == 0) = false := by simp; intro h; exact h0 (by rw [h]; rfl)
    by_cases h1 : 50 < l.length
    · have HE := Lib.hid (show codeS l = 3 by unfold codeS; rw [if_neg h0, if_pos h1])
      go_enter Tryz.func9, Tryz.ntmps9
      go_wp2
      go_ret
      exact ⟨by rw [HE.out]; rfl, Below.refl _ _⟩
    · have HE := Lib.hid (show codeS l = if ∀ s ∈ l, OkS s then (if 1000000000000 < lenS l then 3 else 0) else 9 by unfold codeS; rw [if_neg h0, if_neg h1])
      go_enter Tryz.func9, Tryz.ntmps9
      go_wp2
      go_loop [3, 4] (fun s i => ∃ k : Nat, k ≤ l.length ∧ i = .int .i64 k ∧ s = .int .i64 (lenS (l.take k)) ∧ (∀ s ∈ l.take k, OkS s)) (fun _ i => l.length - (intOf i).toNat)
      case atStart => exact ⟨0, Nat.zero_le _, rfl, by simp [lenS], by simp⟩
      case round =>
        obtain ⟨k, hk, rfl, rfl, hok⟩ := hrel
        have HOK := Lib.hid hok
        have hb1 := lenS_bd (l := l.take k) hok
        simp only [List.length_take] at hb1
        clear hok
        by_cases hlt : k < l.length
        · obtain ⟨bk, o, F, x, y, rfl, _, hbk, hx, c0, c1, c2⟩ := HR.out.at3 hlt
          have HT := Lib.hid (lenS_take hx)
          by_cases hm : OkS (F, x, y)
          · have HN := Lib.hid (show ∀ s ∈ l.take (k + 1), OkS s by
              rw [List.take_add_one, hx]
              intro s hs
              rcases List.mem_append.1 hs with h | h
              · exact HOK.out s h
              · simp at h; rw [h]; exact hm)
            unfold OkS at hm
            simp only at hm
            obtain ⟨m1, m2, m3, m4, m5, m6⟩ := hm
            clear hx
            go_wp2
            go_round
            case rel => exact ⟨k + 1, by omega, by go_num, by rw [HT.out], HN.out⟩
            case measure => simp [intOf]; omega
          · have HB := Lib.hid (show codeS l = 9 by
              rw [HE.out, if_neg]
              intro h
              exact hm (h _ (List.mem_of_getElem? hx)))
            have hbad : decide (F < 1) = true ∨ (decide (F < 1) = false ∧ decide (100000000000 < F) = true) ∨ (decide (F < 1) = false ∧ decide (100000000000 < F) = false ∧ decide (x < 0) = true) ∨ (decide (F < 1) = false ∧ decide (100000000000 < F) = false ∧ decide (x < 0) = false ∧ decide (1000000000 < x) = true) ∨ (decide (F < 1) = false ∧ decide (100000000000 < F) = false ∧ decide (x < 0) = false ∧ decide (1000000000 < x) = false ∧ decide (y < 0) = true) ∨ (decide (F < 1) = false ∧ decide (100000000000 < F) = false ∧ decide (x < 0) = false ∧ decide (1000000000 < x) = false ∧ decide (y < 0) = false ∧ decide (1000000000 < y) = true) := by
              unfold OkS at hm; simp at hm ⊢; omega
            clear hx hm
            rcases hbad with t1 | ⟨t1, t2⟩ | ⟨t1, t2, t3⟩ | ⟨t1, t2, t3, t4⟩ | ⟨t1, t2, t3, t4, t5⟩ | ⟨t1, t2, t3, t4, t5, t6⟩
            all_goals go_wp2
            all_goals go_ret
            all_goals exact ⟨by rw [HB.out]; rfl, Below.refl _ _⟩
        · have hall : ∀ s ∈ l, OkS s := by
            have := HOK.out
            rwa [List.take_of_length_le (by omega)] at this
          have HE2 := Lib.hid (show codeS l = if 1000000000000 < lenS l then 3 else 0 by rw [HE.out, if_pos hall])
          have hS1 : lenS (l.take k) = lenS l := by rw [List.take_of_length_le (by omega)]
          rw [hS1]
          obtain ⟨S, hS⟩ : ∃ S, S = lenS l := ⟨_, rfl⟩
          rw [← hS] at HE2 ⊢
          clear hS hall hS1 hb1
          by_cases hS : 1000000000000 < S
          · rw [if_pos hS] at HE2
            go_wp2
            go_ret
            exact ⟨by rw [HE2.out]; rfl, Below.refl _ _⟩
          · rw [if_neg hS] at HE2
            go_wp2
            go_ret
            exact ⟨by rw [HE2.out]; rfl, Below.refl _ _⟩
end Go.Proofs.YtepfmoaihhonlaaGreatDoor
