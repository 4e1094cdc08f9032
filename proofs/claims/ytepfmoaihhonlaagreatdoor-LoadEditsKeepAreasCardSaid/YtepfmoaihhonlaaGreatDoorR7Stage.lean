/- Package dynamometerref7: stageAt. -/
import Derived.Test.YtepfmoaihhonlaaGreatDoorGLoad
import Derived.Test.YtepfmoaihhonlaaGreatDoorGLine
namespace Go.Proofs.YtepfmoaihhonlaaGreatDoor
open Go Go.RowKit Go.Proofs

set_option maxHeartbeats 1000000 in
set_option maxRecDepth 100000 in
theorem r7StageAt_any (A : Option Addr) (c : Nat) (l : List (Int × Int × Int)) (t : Nat) (w : World) (hr : Rd w 0 w.heap.size 3 A l.length (cells3 l)) (hl : OkL l) (ht : t ≤ 9223372036854775807) :
    Calls Tryz.prog 138 #[.slice A l.length c, .int .i64 t] w fun e w' => e = .returned (.tuple #[.int .i64 (((stIx (stgs l) t).1 : Nat) : Int), .int .i64 (lenS (l.take (stIx (stgs l) t).1))]) ∧ w = w' := by
  have HR := Lib.hid hr
  have HOK := Lib.hid hl.ok
  have hne := hl.ne
  have hle := hl.le
  have hsl : (stgs l).length = l.length := by simp [stgs]
  have HSL := Lib.hid hsl
  clear hr hl hsl
  go_enter Tryz.func138, Tryz.ntmps138
  go_wp2_with fail
  go_loop [6, 7] (fun av iv => ∃ (i t' : Nat) (a : Int), av = .int .i64 a ∧ Hid (a = lenS (l.take i)) ∧ iv = .int .i64 i ∧ i < l.length ∧ a + t' = t ∧ 0 ≤ a ∧ stIx (stgs l) t = (i + (stIx ((stgs l).drop i) t').1, (stIx ((stgs l).drop i) t').2)) (fun _ iv => l.length - (intOf iv).toNat)
  case atStart => exact ⟨0, t, 0, rfl, Lib.hid (by simp [lenS]), rfl, hne, by omega, by omega, by simp⟩
  case round =>
    obtain ⟨i, t', a, rfl, HA, rfl, hi, ht', ha0, heq⟩ := hrel
    have HEQ := Lib.hid heq
    clear heq
    obtain ⟨b, o, F, x, y, rfl, _, hb, hx, c0, c1, c2⟩ := HR.out.at3 hi
    have hF := HOK.out _ (List.mem_of_getElem? hx)
    unfold OkS at hF
    simp only at hF
    obtain ⟨f1, f2, _, _, _, _⟩ := hF
    have HD := Lib.hid (show (stgs l).drop i = toStg (F, x, y) :: (stgs l).drop (i + 1) by
      have h1 : (stgs l)[i]? = some (toStg (F, x, y)) := by unfold stgs; rw [List.getElem?_map, hx]; rfl
      have e := List.getElem?_eq_some_iff.1 h1
      rw [List.drop_eq_getElem_cons e.1, e.2])
    have HLT := Lib.hid (show a + F = lenS (l.take (i + 1)) by rw [lenS_take hx, HA.out])
    have hab : a ≤ 5000000000000 := by
      have := lenS_bd (l := l.take i) (fun s hs => HOK.out s (List.mem_of_mem_take hs))
      rw [List.length_take] at this
      have := HA.out
      omega
    clear hx
    by_cases hlast : i + 1 < l.length
    · have t1 : decide ((i : Int) < (l.length : Int) - 1) = true := by simp; omega
      obtain ⟨s', r', HD'⟩ : ∃ s' r', Hid ((stgs l).drop (i + 1) = s' :: r') := by
        have h1 : i + 1 < (stgs l).length := by rw [HSL.out]; exact hlast
        exact ⟨_, _, Lib.hid (List.drop_eq_getElem_cons h1)⟩
      by_cases hge : a + F ≤ (t : Int)
      · have t2 : decide ((t : Int) < a + F) = false := by simpa using hge
        have HN := Lib.hid (show stIx (stgs l) t = (i + 1 + (stIx ((stgs l).drop (i + 1)) (t' - F.toNat)).1, (stIx ((stgs l).drop (i + 1)) (t' - F.toNat)).2) by
          rw [HEQ.out, HD.out, HD'.out, stIx_step (by simp [toStg]; omega)]
          simp only [toStg]
          congr 1
          omega)
        go_wp2
        go_round
        case rel => exact ⟨i + 1, t' - F.toNat, a + F, rfl, HLT, by go_num, by omega, by omega, by omega, HN.out⟩
        case measure => simp [intOf]; omega
      · have t2 : decide ((t : Int) < a + F) = true := by simp; omega
        have HN := Lib.hid (show (stIx (stgs l) t).1 = i by
          rw [HEQ.out, HD.out, HD'.out, stIx, if_pos (by simp [toStg]; omega)]; rfl)
        have hlt : (t : Int) < a + F := by omega
        go_wp2
        go_ret2
        exact ⟨by rw [HN.out, ← HA.out]; rfl, rfl⟩
    · have t1 : decide ((i : Int) < (l.length : Int) - 1) = false := by simp; omega
      have HN := Lib.hid (show (stIx (stgs l) t).1 = i by
        rw [HEQ.out, HD.out, List.drop_eq_nil_of_le (by rw [HSL.out]; omega)]; rfl)
      have e1 : (l.length : Int) - 1 = (i : Int) := by omega
      go_wp2
      go_ret2
      exact ⟨by rw [HN.out, ← HA.out]; rfl, rfl⟩
end Go.Proofs.YtepfmoaihhonlaaGreatDoor
