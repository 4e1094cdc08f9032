/- small letters in the reference; names of pairs with capitals (both). Printed by wip/gen_head.py. -/
import Derived.Test.YthfloagpmmohkaaGreatDoorHedB
import Derived.Test.YthfloagpmmohkaaGreatDoorWSml
namespace Go.Proofs.YthfloagpmmohkaaGreatDoor
open Go Go.RowKit Go.Proofs

set_option maxHeartbeats 2000000 in
set_option maxRecDepth 100000 in
theorem rsmall_any (l : List UInt8) (w : World) (hl : l.length ≤ 140737488355328) : Calls Tryz.prog 41 #[tx l] w fun e w' => e = .returned (tx (Cr.sml l)) ∧ Below w.heap.size w w' := by
  have hcv := run_bytes_of_string (P := Tryz.prog) w 9 27 5 ⟨l.toArray⟩ Tryz.underlying9 Tryz.underlying27 Tryz.underlying5
  have hsz : (⟨l.toArray⟩ : ByteArray).size = l.length := rfl
  rw [hsz] at hcv
  obtain ⟨cap, hcap⟩ : ∃ cap, cap = grownCap w l.length 0 5 := ⟨_, rfl⟩
  rw [← hcap] at hcv
  have hcn : l.length ≤ cap := by rw [hcap]; have := grownCap_ge w l.length 0 5; omega
  obtain ⟨w1, hw1⟩ : ∃ w1, w1 = w.drew.alloc (.cells (bytesRow ⟨l.toArray⟩ cap) 5 ((bytesRow ⟨l.toArray⟩ cap).size, (bytesRow ⟨l.toArray⟩ cap).size + 1)) := ⟨_, rfl⟩
  rw [← hw1] at hcv
  have HB := Lib.hid (show ByB w1 w.heap.size l by rw [hw1]; exact by_new w l cap)
  have HF := Lib.hid (show Below w.heap.size w w1 by rw [hw1]; exact (Below.refl _ w).drew.alloc (Nat.le_refl _) _)
  have HS := Lib.hid (show w.heap.size < w1.heap.size by rw [hw1]; simp)
  clear hw1 hcap hsz
  go_enter Tryz.func41, Tryz.ntmps41
  go_wp2
  go_loopw [4] (fun i wr => ∃ k : Nat, k ≤ l.length ∧ i = .int .i64 k ∧ ByB wr w.heap.size ((l.take k).map lowB ++ l.drop k) ∧ Below w.heap.size w wr) (fun i _ => l.length - (intOf i).toNat)
  case atStart => exact ⟨0, Nat.zero_le _, rfl, by simpa using HB.out, HF.out⟩
  case round =>
    obtain ⟨k, hk, rfl, hbk, hfk⟩ := hrel
    have HBK := Lib.hid hbk
    have HFK := Lib.hid hfk
    clear hbk hfk
    by_cases hlt : k < l.length
    · obtain ⟨b, hb⟩ : ∃ b, l[k]? = some b := ⟨_, List.getElem?_eq_getElem hlt⟩
      have hlk : ((l.take k).map lowB).length = k := by simp; omega
      have hLk : ((l.take k).map lowB ++ l.drop k)[k]? = some b := by
        rw [List.getElem?_append_right (by omega), hlk, Nat.sub_self]
        simpa using hb
      have hLl : ((l.take k).map lowB ++ l.drop k).length = l.length := by simp; omega
      have kc := HBK.out.cell hLk
      have kz := HBK.out.frz (j := k) (by omega)
      have hnx : ((l.take k).map lowB ++ l.drop k).set k (lowB b) = (l.take (k + 1)).map lowB ++ l.drop (k + 1) := by
        apply List.ext_getElem?
        intro i
        rw [List.getElem?_set]
        by_cases hik : k = i
        · subst hik
          rw [if_pos rfl, if_pos (by omega)]
          rw [List.getElem?_append_left (by simp; omega)]
          simp [hb]
        · rw [if_neg hik]
          rcases Nat.lt_or_ge i k with h1 | h1
          · rw [List.getElem?_append_left (by rw [hlk]; exact h1), List.getElem?_append_left (by simp; omega)]
            simp only [List.getElem?_map]
            rw [List.getElem?_take_of_lt h1, List.getElem?_take_of_lt (by omega)]
          · rw [List.getElem?_append_right (by rw [hlk]; exact h1), List.getElem?_append_right (by simp; omega), hlk]
            simp only [List.getElem?_drop, List.length_map, List.length_take]
            congr 1
            omega
      have HNX := Lib.hid hnx
      have HLK := Lib.hid hLk
      have HC := Lib.hid (rlarge_any b wr)
      have HLB := Lib.hid (show lowB b = if Cr.isCap b then b + 32 else b from rfl)
      have hcap : Cr.isCap b = true → 65 ≤ b.toNat ∧ b.toNat ≤ 90 := fun h => by simpa [Cr.isCap] using h
      have HSK := Lib.hid (show w.heap.size < wr.heap.size by have := HFK.out.size; have := HS.out; exact heap_lt (HBK.out.choose_spec.choose_spec.1))
      clear hb hlk hLk hLl hnx
      cases hc : Cr.isCap b with
      | true =>
        rw [hc] at HC HLB
        obtain ⟨h65, h90⟩ := hcap hc
        have ev : (b.toNat : Int) + 32 = ((b + 32).toNat : Int) := by
          have : (b + 32).toNat = (b.toNat + 32) % 256 := UInt8.toNat_add b 32
          rw [this]
          omega
        have EV := Lib.hid ev
        clear ev hcap hc
        go_wp2_with fail
        (with_reducible refine HC.out.mono ?_)
        rintro e w2 ⟨rfl, rfl⟩
        go_wp2
        go_roundw
        case rel =>
          refine ⟨k + 1, by omega, by go_num, ?_, ?_⟩
          · have h1 := HBK.out.set (j := k) (b + 32)
            have h2 : lowB b = b + 32 := by rw [HLB.out]; rfl
            rw [← HNX.out, h2]
            rw [← EV.out] at h1
            exact h1
          · exact HFK.out.setCell (p := ⟨w.heap.size, k, none⟩) (Nat.le_refl _) _
        case measure => simp [intOf]; omega
      | false =>
        rw [hc] at HC HLB
        clear hcap hc
        go_wp2_with fail
        (with_reducible refine HC.out.mono ?_)
        rintro e w2 ⟨rfl, rfl⟩
        go_wp2
        go_roundw
        case rel =>
          refine ⟨k + 1, by omega, by go_num, ?_, HFK.out⟩
          have h2 : lowB b = b := by rw [HLB.out]; rfl
          rw [← HNX.out, h2]
          have h3 : ((l.take k).map lowB ++ l.drop k).set k b = (l.take k).map lowB ++ l.drop k := by
            apply List.ext_getElem?
            intro i
            rw [List.getElem?_set]
            split
            · rename_i e
              subst e
              rw [HLK.out, if_pos (List.getElem?_eq_some_iff.1 HLK.out).1]
            · rfl
          rw [h3]
          exact HBK.out
        case measure => simp [intOf]; omega
    · have hke : k = l.length := by omega
      have hbk := HBK.out
      rw [hke, List.take_length, List.drop_length, List.append_nil] at hbk
      have hcv2 := ByB.conv (c := cap) hbk
      rw [List.length_map] at hcv2
      clear hbk
      go_wp2
      go_ret
      exact ⟨rfl, HFK.out⟩
/-- one byte's turn: a small letter at the beginning or behind a hyphen is turned to a capital -/
def prStep (k : Nat) (L : List UInt8) : List UInt8 := match L[k]? with
  | none => L
  | some x => if Cr.isSml x && (k == 0 || L[k - 1]? == some 45) then L.set k (x - 32) else L
def prN (L : List UInt8) : Nat → List UInt8
  | 0 => L
  | k + 1 => prStep k (prN L k)
theorem prStep_length (k : Nat) (L : List UInt8) : (prStep k L).length = L.length := by
  unfold prStep
  split
  · rfl
  · split
    · rw [List.length_set]
    · rfl
theorem prN_length (L : List UInt8) : ∀ k, (prN L k).length = L.length
  | 0 => rfl
  | k + 1 => by show (prStep k (prN L k)).length = _; rw [prStep_length, prN_length L k]
def proper (l : List UInt8) : List UInt8 := prN (Cr.sml l) (Cr.sml l).length
theorem sub32 {x : UInt8} (h : Cr.isSml x = true) : (97 ≤ x.toNat ∧ x.toNat ≤ 122) ∧ ((x - 32).toNat : Int) = (x.toNat : Int) - 32 := by
  have h1 : 97 ≤ x.toNat ∧ x.toNat ≤ 122 := by simpa [Cr.isSml] using h
  refine ⟨h1, ?_⟩
  have h2 : (x - 32).toNat = x.toNat - 32 := UInt8.toNat_sub_of_le x 32 (by
    show (32 : UInt8).toNat ≤ x.toNat
    have : (32 : UInt8).toNat = 32 := rfl
    omega)
  rw [h2]
  omega
set_option maxHeartbeats 2000000 in
set_option maxRecDepth 100000 in
theorem proper_any (l : List UInt8) (w : World) (hl : l.length ≤ 140737488355328) : Calls Tryz.prog 8 #[tx l] w fun e w' => e = .returned (if nameOk l = true then .tuple #[tx (proper l), .int .i64 0] else .tuple #[tx [], .int .i64 8]) ∧ Below w.heap.size w w' := by
  have HN := Lib.hid (nameForm_any l w hl)
  have HS := Lib.hid (small_any l w hl)
  cases hn : nameOk l with
  | false =>
    rw [hn] at HN
    have HN := Lib.hid HN.out
    clear hn
    go_enter Tryz.func8, Tryz.ntmps8
    go_wp2_with fail
    (with_reducible refine (HN.out).mono ?_)
    rintro e w2 ⟨rfl, rfl⟩
    go_wp2
    refine bodyPost_ret (v := .tuple #[tx [], .int .i64 8]) (by simp [results, Tryz.results8, go_sem]) rfl ?_
    exact ⟨rfl, Below.refl _ _⟩
  | true =>
    rw [hn] at HN
    have HN := Lib.hid HN.out
    clear hn
    obtain ⟨S, hSe⟩ : ∃ S, S = Cr.sml l := ⟨_, rfl⟩
    have HP := Lib.hid (show proper l = prN S S.length by rw [hSe]; rfl)
    have hSl : S.length ≤ 140737488355328 := by rw [hSe]; unfold Cr.sml; rw [List.length_map]; exact hl
    rw [← hSe] at HS
    have HS := Lib.hid HS.out
    clear hSe
    go_enter Tryz.func8, Tryz.ntmps8
    go_wp2_with fail
    (with_reducible refine (HN.out).mono ?_)
    rintro e w2 ⟨rfl, rfl⟩
    go_wp2_with fail
    (with_reducible refine (HS.out).mono ?_)
    rintro e w2 ⟨rfl, hb2⟩
    have hcv := run_bytes_of_string (P := Tryz.prog) w2 9 27 5 ⟨S.toArray⟩ Tryz.underlying9 Tryz.underlying27 Tryz.underlying5
    have hsz : (⟨S.toArray⟩ : ByteArray).size = S.length := rfl
    rw [hsz] at hcv
    obtain ⟨cap, hcap⟩ : ∃ cap, cap = grownCap w2 S.length 0 5 := ⟨_, rfl⟩
    rw [← hcap] at hcv
    have hcn : S.length ≤ cap := by rw [hcap]; have := grownCap_ge w2 S.length 0 5; omega
    obtain ⟨w1, hw1⟩ : ∃ w1, w1 = w2.drew.alloc (.cells (bytesRow ⟨S.toArray⟩ cap) 5 ((bytesRow ⟨S.toArray⟩ cap).size, (bytesRow ⟨S.toArray⟩ cap).size + 1)) := ⟨_, rfl⟩
    rw [← hw1] at hcv
    have HB := Lib.hid (show ByB w1 w2.heap.size S by rw [hw1]; exact by_new w2 S cap)
    have HF := Lib.hid (show Below w.heap.size w w1 by rw [hw1]; exact hb2.drew.alloc hb2.size _)
    have hgw : w.heap.size ≤ w2.heap.size := hb2.size
    obtain ⟨g, hg⟩ : ∃ g, g = w2.heap.size := ⟨_, rfl⟩
    rw [← hg] at hcv HB hgw
    obtain ⟨n, hnn⟩ : ∃ n, n = S.length := ⟨_, rfl⟩
    rw [← hnn] at hcv hcn hSl HP
    have HNN := Lib.hid hnn
    clear hw1 hcap hsz hb2 hg hnn
    go_wp2
    go_loopw [5, 6, 15] (fun _ _ i wr => ∃ k : Nat, k ≤ n ∧ i = .int .i64 k ∧ ByB wr g (prN S k) ∧ Below w.heap.size w wr) (fun _ _ i _ => n - (intOf i).toNat)
    case atStart => exact ⟨0, Nat.zero_le _, rfl, HB.out, HF.out⟩
    case round =>
      obtain ⟨k, hk, rfl, hbk, hfk⟩ := hrel
      have HBK := Lib.hid hbk
      have HFK := Lib.hid hfk
      clear hbk hfk
      by_cases hlt : k < n
      · obtain ⟨L, hL⟩ : ∃ L, L = prN S k := ⟨_, rfl⟩
        have hLl : L.length = n := by rw [hL, prN_length, ← HNN.out]
        have HNX := Lib.hid (show prN S (k + 1) = prStep k L by rw [hL]; rfl)
        rw [← hL] at HBK
        have HBK := Lib.hid HBK.out
        obtain ⟨x, hx⟩ : ∃ x, L[k]? = some x := ⟨_, List.getElem?_eq_getElem (by omega)⟩
        have kc := HBK.out.cell hx
        have kz := HBK.out.frz (j := k) (by omega)
        have HX := Lib.hid hx
        have HC := Lib.hid (isSmall_any x wr)
        have HSK := Lib.hid (show g < wr.heap.size by have h9 := HBK.out; obtain ⟨C, fz, h1, _⟩ := h9; exact heap_lt h1)
        clear hL hx
        cases hc : Cr.isSml x with
        | false =>
          rw [hc] at HC
          have HC := Lib.hid HC.out
          have HE := Lib.hid (show prStep k L = L by unfold prStep; rw [HX.out]; simp only [hc, Bool.false_and, Bool.false_eq_true, if_false])
          clear hc
          go_wp2_with fail
          (with_reducible refine (HC.out).mono ?_)
          rintro e w3 ⟨rfl, rfl⟩
          go_wp2
          go_roundw
          case rel => exact ⟨k + 1, by omega, by go_num, by rw [HNX.out, HE.out]; exact HBK.out, HFK.out⟩
          case measure => simp [intOf]; omega
        | true =>
          rw [hc] at HC
          have HC := Lib.hid HC.out
          obtain ⟨⟨h97, h122⟩, hsub⟩ := sub32 hc
          have EV := Lib.hid (show (x.toNat : Int) - 97 + 65 = ((x - 32).toNat : Int) by omega)
          clear hsub
          by_cases hk0 : k = 0
          · have HE := Lib.hid (show prStep k L = L.set k (x - 32) by unfold prStep; rw [HX.out]; simp only [hc, hk0, beq_self_eq_true, Bool.true_or, Bool.and_true, if_true])
            have tk : ((k : Int) == 0) = true := by simp [hk0]
            clear hk0 hc
            go_wp2_with fail
            (with_reducible refine (HC.out).mono ?_)
            rintro e w3 ⟨rfl, rfl⟩
            go_wp2
            go_roundw
            case rel =>
              refine ⟨k + 1, by omega, by go_num, ?_, HFK.out.setCell (p := ⟨g, k, none⟩) hgw _⟩
              have h1 := HBK.out.set (j := k) (x - 32)
              rw [HNX.out, HE.out]
              rw [← EV.out] at h1
              exact h1
            case measure => simp [intOf]; omega
          · obtain ⟨y, hy⟩ : ∃ y, L[k - 1]? = some y := ⟨_, List.getElem?_eq_getElem (by omega)⟩
            have kp := HBK.out.cell hy
            have tk : ((k : Int) == 0) = false := by simp; omega
            have hk1 : ((k : Int) - 1).toNat = k - 1 := by omega
            have hk2 : 0 ≤ (k : Int) - 1 := by omega
            have HY := Lib.hid hy
            have hk3 : 0 < k := by omega
            have hk4 : (k == 0) = false := by simp; omega
            clear hk0 hy
            by_cases h45 : y = 45
            · have ty : ((y.toNat : Int) == 45) = true := by rw [h45]; rfl
              have HE := Lib.hid (show prStep k L = L.set k (x - 32) by unfold prStep; rw [HX.out, HY.out, h45]; simp only [hc, hk4, beq_self_eq_true, Bool.or_true, Bool.and_true, if_true])
              clear h45 hc hk4
              go_wp2_with fail
              (with_reducible refine (HC.out).mono ?_)
              rintro e w3 ⟨rfl, rfl⟩
              go_wp2
              go_roundw
              case rel =>
                refine ⟨k + 1, by omega, by go_num, ?_, HFK.out.setCell (p := ⟨g, k, none⟩) hgw _⟩
                have h1 := HBK.out.set (j := k) (x - 32)
                rw [HNX.out, HE.out]
                rw [← EV.out] at h1
                exact h1
              case measure => simp [intOf]; omega
            · have ty : ((y.toNat : Int) == 45) = false := by have h9 : y.toNat ≠ 45 := u8_ne h45; simp; omega
              have HE := Lib.hid (show prStep k L = L by
                have h9 : (some y == some (45 : UInt8)) = false := by simpa using h45
                unfold prStep
                rw [HX.out, HY.out]
                simp only [h9, hc, hk4, Bool.or_false, Bool.and_false, Bool.false_eq_true, if_false])
              clear h45 hc hk4
              go_wp2_with fail
              (with_reducible refine (HC.out).mono ?_)
              rintro e w3 ⟨rfl, rfl⟩
              go_wp2
              go_roundw
              case rel => exact ⟨k + 1, by omega, by go_num, by rw [HNX.out, HE.out]; exact HBK.out, HFK.out⟩
              case measure => simp [intOf]; omega
      · have hke : k = n := by omega
        have hcv2 := ByB.conv (c := cap) HBK.out
        rw [prN_length, ← HNN.out, hke, ← HP.out] at hcv2
        clear hke
        go_wp2
        all_goals (refine bodyPost_ret (v := .tuple #[tx (proper l), .int .i64 0]) (by simp [results, Tryz.results8, go_sem]) rfl ?_)
        all_goals (exact ⟨rfl, HFK.out⟩)
set_option maxHeartbeats 2000000 in
set_option maxRecDepth 100000 in
theorem rproper_any (l : List UInt8) (w : World) (hl : l.length ≤ 140737488355328) : Calls Tryz.prog 9 #[tx l] w fun e w' => e = .returned (if nameOk l = true then .tuple #[tx (proper l), .int .i64 0] else .tuple #[tx [], .int .i64 8]) ∧ Below w.heap.size w w' := by
  have HN := Lib.hid (rToken_any l w hl)
  have HS := Lib.hid (rsmall_any l w hl)
  cases hn : nameOk l with
  | false =>
    rw [hn] at HN
    have HN := Lib.hid HN.out
    clear hn
    go_enter Tryz.func9, Tryz.ntmps9
    go_wp2_with fail
    (with_reducible refine (HN.out).mono ?_)
    rintro e w2 ⟨rfl, rfl⟩
    go_wp2
    refine bodyPost_ret (v := .tuple #[tx [], .int .i64 8]) (by simp [results, Tryz.results9, go_sem]) rfl ?_
    exact ⟨rfl, Below.refl _ _⟩
  | true =>
    rw [hn] at HN
    have HN := Lib.hid HN.out
    clear hn
    obtain ⟨S, hSe⟩ : ∃ S, S = Cr.sml l := ⟨_, rfl⟩
    have HP := Lib.hid (show proper l = prN S S.length by rw [hSe]; rfl)
    have hSl : S.length ≤ 140737488355328 := by rw [hSe]; unfold Cr.sml; rw [List.length_map]; exact hl
    rw [← hSe] at HS
    have HS := Lib.hid HS.out
    clear hSe
    go_enter Tryz.func9, Tryz.ntmps9
    go_wp2_with fail
    (with_reducible refine (HN.out).mono ?_)
    rintro e w2 ⟨rfl, rfl⟩
    go_wp2_with fail
    (with_reducible refine (HS.out).mono ?_)
    rintro e w2 ⟨rfl, hb2⟩
    have hcv := run_bytes_of_string (P := Tryz.prog) w2 9 27 5 ⟨S.toArray⟩ Tryz.underlying9 Tryz.underlying27 Tryz.underlying5
    have hsz : (⟨S.toArray⟩ : ByteArray).size = S.length := rfl
    rw [hsz] at hcv
    obtain ⟨cap, hcap⟩ : ∃ cap, cap = grownCap w2 S.length 0 5 := ⟨_, rfl⟩
    rw [← hcap] at hcv
    have hcn : S.length ≤ cap := by rw [hcap]; have := grownCap_ge w2 S.length 0 5; omega
    obtain ⟨w1, hw1⟩ : ∃ w1, w1 = w2.drew.alloc (.cells (bytesRow ⟨S.toArray⟩ cap) 5 ((bytesRow ⟨S.toArray⟩ cap).size, (bytesRow ⟨S.toArray⟩ cap).size + 1)) := ⟨_, rfl⟩
    rw [← hw1] at hcv
    have HB := Lib.hid (show ByB w1 w2.heap.size S by rw [hw1]; exact by_new w2 S cap)
    have HF := Lib.hid (show Below w.heap.size w w1 by rw [hw1]; exact hb2.drew.alloc hb2.size _)
    have hgw : w.heap.size ≤ w2.heap.size := hb2.size
    obtain ⟨g, hg⟩ : ∃ g, g = w2.heap.size := ⟨_, rfl⟩
    rw [← hg] at hcv HB hgw
    obtain ⟨n, hnn⟩ : ∃ n, n = S.length := ⟨_, rfl⟩
    rw [← hnn] at hcv hcn hSl HP
    have HNN := Lib.hid hnn
    clear hw1 hcap hsz hb2 hg hnn
    go_wp2
    go_loopw [5] (fun  i wr => ∃ k : Nat, k ≤ n ∧ i = .int .i64 k ∧ ByB wr g (prN S k) ∧ Below w.heap.size w wr) (fun  i _ => n - (intOf i).toNat)
    case atStart => exact ⟨0, Nat.zero_le _, rfl, HB.out, HF.out⟩
    case round =>
      obtain ⟨k, hk, rfl, hbk, hfk⟩ := hrel
      have HBK := Lib.hid hbk
      have HFK := Lib.hid hfk
      clear hbk hfk
      by_cases hlt : k < n
      · obtain ⟨L, hL⟩ : ∃ L, L = prN S k := ⟨_, rfl⟩
        have hLl : L.length = n := by rw [hL, prN_length, ← HNN.out]
        have HNX := Lib.hid (show prN S (k + 1) = prStep k L by rw [hL]; rfl)
        rw [← hL] at HBK
        have HBK := Lib.hid HBK.out
        obtain ⟨x, hx⟩ : ∃ x, L[k]? = some x := ⟨_, List.getElem?_eq_getElem (by omega)⟩
        have kc := HBK.out.cell hx
        have kz := HBK.out.frz (j := k) (by omega)
        have HX := Lib.hid hx
        have HC := Lib.hid (rlower_any x wr)
        have HSK := Lib.hid (show g < wr.heap.size by have h9 := HBK.out; obtain ⟨C, fz, h1, _⟩ := h9; exact heap_lt h1)
        clear hL hx
        cases hc : Cr.isSml x with
        | false =>
          rw [hc] at HC
          have HC := Lib.hid HC.out
          have HE := Lib.hid (show prStep k L = L by unfold prStep; rw [HX.out]; simp only [hc, Bool.false_and, Bool.false_eq_true, if_false])
          clear hc
          go_wp2_with fail
          (with_reducible refine (HC.out).mono ?_)
          rintro e w3 ⟨rfl, rfl⟩
          go_wp2
          go_roundw
          case rel => exact ⟨k + 1, by omega, by go_num, by rw [HNX.out, HE.out]; exact HBK.out, HFK.out⟩
          case measure => simp [intOf]; omega
        | true =>
          rw [hc] at HC
          have HC := Lib.hid HC.out
          obtain ⟨⟨h97, h122⟩, hsub⟩ := sub32 hc
          have EV := Lib.hid (show (x.toNat : Int) - 32 = ((x - 32).toNat : Int) by omega)
          clear hsub
          by_cases hk0 : k = 0
          · have HE := Lib.hid (show prStep k L = L.set k (x - 32) by unfold prStep; rw [HX.out]; simp only [hc, hk0, beq_self_eq_true, Bool.true_or, Bool.and_true, if_true])
            have tk : ((k : Int) == 0) = true := by simp [hk0]
            clear hk0 hc
            go_wp2_with fail
            (with_reducible refine (HC.out).mono ?_)
            rintro e w3 ⟨rfl, rfl⟩
            go_wp2
            go_roundw
            case rel =>
              refine ⟨k + 1, by omega, by go_num, ?_, HFK.out.setCell (p := ⟨g, k, none⟩) hgw _⟩
              have h1 := HBK.out.set (j := k) (x - 32)
              rw [HNX.out, HE.out]
              rw [← EV.out] at h1
              exact h1
            case measure => simp [intOf]; omega
          · obtain ⟨y, hy⟩ : ∃ y, L[k - 1]? = some y := ⟨_, List.getElem?_eq_getElem (by omega)⟩
            have kp := HBK.out.cell hy
            have tk : ((k : Int) == 0) = false := by simp; omega
            have hk1 : ((k : Int) - 1).toNat = k - 1 := by omega
            have hk2 : 0 ≤ (k : Int) - 1 := by omega
            have HY := Lib.hid hy
            have hk3 : 0 < k := by omega
            have hk4 : (k == 0) = false := by simp; omega
            clear hk0 hy
            by_cases h45 : y = 45
            · have ty : ((y.toNat : Int) == 45) = true := by rw [h45]; rfl
              have HE := Lib.hid (show prStep k L = L.set k (x - 32) by unfold prStep; rw [HX.out, HY.out, h45]; simp only [hc, hk4, beq_self_eq_true, Bool.or_true, Bool.and_true, if_true])
              clear h45 hc hk4
              go_wp2_with fail
              (with_reducible refine (HC.out).mono ?_)
              rintro e w3 ⟨rfl, rfl⟩
              go_wp2
              go_roundw
              case rel =>
                refine ⟨k + 1, by omega, by go_num, ?_, HFK.out.setCell (p := ⟨g, k, none⟩) hgw _⟩
                have h1 := HBK.out.set (j := k) (x - 32)
                rw [HNX.out, HE.out]
                rw [← EV.out] at h1
                exact h1
              case measure => simp [intOf]; omega
            · have ty : ((y.toNat : Int) == 45) = false := by have h9 : y.toNat ≠ 45 := u8_ne h45; simp; omega
              have HE := Lib.hid (show prStep k L = L by
                have h9 : (some y == some (45 : UInt8)) = false := by simpa using h45
                unfold prStep
                rw [HX.out, HY.out]
                simp only [h9, hc, hk4, Bool.or_false, Bool.and_false, Bool.false_eq_true, if_false])
              clear h45 hc hk4
              go_wp2_with fail
              (with_reducible refine (HC.out).mono ?_)
              rintro e w3 ⟨rfl, rfl⟩
              go_wp2
              go_roundw
              case rel => exact ⟨k + 1, by omega, by go_num, by rw [HNX.out, HE.out]; exact HBK.out, HFK.out⟩
              case measure => simp [intOf]; omega
      · have hke : k = n := by omega
        have hcv2 := ByB.conv (c := cap) HBK.out
        rw [prN_length, ← HNN.out, hke, ← HP.out] at hcv2
        clear hke
        go_wp2
        all_goals (refine bodyPost_ret (v := .tuple #[tx (proper l), .int .i64 0]) (by simp [results, Tryz.results9, go_sem]) rfl ?_)
        all_goals (exact ⟨rfl, HFK.out⟩)
end Go.Proofs.YthfloagpmmohkaaGreatDoor
