import Derived.Test.YtkoodmoilfgafaaDoorGPlain
import Derived.Test.YtkoodmoilfgafaaDoorGLoad
/- Package load: lists of times: checkTimes. -/
namespace Go.Proofs.YtkoodmoilfgafaaDoor
open Go Go.RowKit Go.Proofs

theorem getD_some {zs : List Int} {i : Nat} {z : Int} (h : zs[i]? = some z) : zs.getD i 0 = z := by rw [List.getD_eq_getElem?_getD, h]; rfl
set_option maxHeartbeats 2000000 in
set_option maxRecDepth 100000 in
theorem checkTimes_any (A : Option Addr) (c : Nat) (zs : List Int) (w : World) (hr : Rd w 0 w.heap.size 1 A zs.length (ints zs)) (hl : zs.length ≤ 9223372036854775807) :
    Calls Tryd.prog 49 #[.slice A zs.length c] w fun e w' => e = .returned (.int .i64 (codeT zs)) ∧ Below w.heap.size w w' := by
  have HR := Lib.hid hr
  clear hr
  by_cases h1 : 20000 < zs.length
  · have HE := Lib.hid (show codeT zs = 3 by unfold codeT; rw [if_pos h1])
    go_enter Tryd.func49, Tryd.ntmps49
    go_wp2
    go_ret
    exact ⟨by rw [HE.out]; rfl, Below.refl _ _⟩
  · go_enter Tryd.func49, Tryd.ntmps49
    go_wp2
    go_loopw [3, 4, 10, 15, 22] (fun _ _ i _ _ wr => ∃ k : Nat, k ≤ zs.length ∧ i = .int .i64 k ∧ (∀ j, j < k → elT zs j = 0) ∧ Below w.heap.size w wr) (fun _ _ i _ _ _ => zs.length - (intOf i).toNat)
    case atStart => exact ⟨0, Nat.zero_le _, rfl, fun j hj => by omega, Below.refl _ w⟩
    case round =>
      obtain ⟨k, hk, rfl, hok, hbw⟩ := hrel
      have hsz := hbw.size
      have HOK := Lib.hid hok
      have HBW := Lib.hid hbw
      clear hok
      by_cases hlt : k < zs.length
      · obtain ⟨b, o, u, rfl, hb, hu, qk⟩ := (HR.out.below hbw (Nat.le_refl _)).at1 hlt
        obtain ⟨t, ht, rfl⟩ := ints_get hu
        have hd := getD_some ht
        have HS := Lib.hid (fun h => codeT_at (l := zs) (k := k) h1 hlt HOK.out h)
        have HN := Lib.hid (show elT zs k = 0 → ∀ j, j < k + 1 → elT zs j = 0 from fun h j hj => by
          rcases Nat.eq_or_lt_of_le (Nat.le_of_lt_succ hj) with e | e
          · rw [e]; exact h
          · exact HOK.out j e)
        clear hu ht
        by_cases g1 : t < 0
        · have HV := Lib.hid (show codeT zs = 9 by
            have e : elT zs k = 9 := by unfold elT; rw [hd, if_pos (.inl g1)]
            rw [HS.out (by omega), e])
          have t1 : decide (t < 0) = true := by simpa using g1
          clear hd
          go_wp2
          go_ret
          exact ⟨by rw [HV.out]; rfl, HBW.out⟩
        · have t1 : decide (t < 0) = false := by simpa using g1
          by_cases g2 : 1000000000000 < t
          · have HV := Lib.hid (show codeT zs = 9 by
              have e : elT zs k = 9 := by unfold elT; rw [hd, if_pos (.inr g2)]
              rw [HS.out (by omega), e])
            have t2 : decide (1000000000000 < t) = true := by simpa using g2
            clear hd
            go_wp2
            go_ret
            exact ⟨by rw [HV.out]; rfl, HBW.out⟩
          · have t2 : decide (1000000000000 < t) = false := by simpa using g2
            cases k with
            | zero =>
              have HV := Lib.hid (show elT zs 0 = 0 by unfold elT; rw [hd, if_neg (by omega), if_neg (by omega)])
              clear hd
              rw [Nat.add_zero] at qk
              go_wp2
              go_roundw
              case rel => exact ⟨1, by omega, by go_num, HN.out HV.out, HBW.out⟩
              case measure => simp [intOf]; omega
            | succ k =>
              obtain ⟨b', o', u', hA, hb', hu', qk'⟩ := (HR.out.below hbw (Nat.le_refl _)).at1 (show k < zs.length by omega)
              obtain ⟨t', ht', rfl⟩ := ints_get hu'
              have hd' := getD_some ht'
              simp only [Option.some.injEq, Addr.mk.injEq, and_true] at hA
              obtain ⟨rfl, rfl⟩ := hA
              by_cases g3 : t < t'
              · have HV := Lib.hid (show codeT zs = 10 by
                  have e : elT zs (k + 1) = 10 := by unfold elT; rw [Nat.add_sub_cancel, hd, hd', if_neg (by omega), if_pos ⟨by omega, g3⟩]
                  rw [HS.out (by omega), e])
                have t3 : decide (t < t') = true := by simpa using g3
                clear hd hd' hu' ht'
                go_wp2
                go_ret
                exact ⟨by rw [HV.out]; rfl, HBW.out⟩
              · have t3 : decide (t < t') = false := by simpa using g3
                have HV := Lib.hid (show elT zs (k + 1) = 0 by unfold elT; rw [Nat.add_sub_cancel, hd, hd', if_neg (by omega), if_neg (by omega)])
                clear hd hd' hu' ht'
                go_wp2
                go_roundw
                case rel => exact ⟨k + 1 + 1, by omega, by go_num, HN.out HV.out, HBW.out⟩
                case measure => simp [intOf]; omega
      · have HV := Lib.hid (codeT_end h1 (fun j hj => HOK.out j (by omega)))
        go_wp2
        go_ret
        exact ⟨by rw [HV.out]; rfl, HBW.out⟩
end Go.Proofs.YtkoodmoilfgafaaDoor

/- Package dynamometerref7: timesFault. -/
namespace Go.Proofs.YtkoodmoilfgafaaDoor
open Go Go.RowKit Go.Proofs

set_option maxHeartbeats 2000000 in
set_option maxRecDepth 100000 in
theorem r7Times_any (A : Option Addr) (c : Nat) (zs : List Int) (w : World) (hr : Rd w 0 w.heap.size 1 A zs.length (ints zs)) (hl : zs.length ≤ 9223372036854775807) :
    Calls Tryd.prog 52 #[.slice A zs.length c] w fun e w' => e = .returned (.int .i64 (codeT zs)) ∧ Below w.heap.size w w' := by
  have HR := Lib.hid hr
  clear hr
  by_cases h1 : 20000 < zs.length
  · have HE := Lib.hid (show codeT zs = 3 by unfold codeT; rw [if_pos h1])
    go_enter Tryd.func52, Tryd.ntmps52
    go_wp2
    go_ret
    exact ⟨by rw [HE.out]; rfl, Below.refl _ _⟩
  · go_enter Tryd.func52, Tryd.ntmps52
    go_wp2
    go_loopw [3] (fun i wr => ∃ k : Nat, k ≤ zs.length ∧ i = .int .i64 k ∧ (∀ j, j < k → elT zs j = 0) ∧ Below w.heap.size w wr) (fun i _ => zs.length - (intOf i).toNat)
    case atStart => exact ⟨0, Nat.zero_le _, rfl, fun j hj => by omega, Below.refl _ w⟩
    case round =>
      obtain ⟨k, hk, rfl, hok, hbw⟩ := hrel
      have hsz := hbw.size
      have HOK := Lib.hid hok
      have HBW := Lib.hid hbw
      clear hok
      by_cases hlt : k < zs.length
      · obtain ⟨b, o, u, rfl, hb, hu, qk⟩ := (HR.out.below hbw (Nat.le_refl _)).at1 hlt
        obtain ⟨t, ht, rfl⟩ := ints_get hu
        have hd := getD_some ht
        have HS := Lib.hid (fun h => codeT_at (l := zs) (k := k) h1 hlt HOK.out h)
        have HN := Lib.hid (show elT zs k = 0 → ∀ j, j < k + 1 → elT zs j = 0 from fun h j hj => by
          rcases Nat.eq_or_lt_of_le (Nat.le_of_lt_succ hj) with e | e
          · rw [e]; exact h
          · exact HOK.out j e)
        clear hu ht
        by_cases g1 : t < 0
        · have HV := Lib.hid (show codeT zs = 9 by
            have e : elT zs k = 9 := by unfold elT; rw [hd, if_pos (.inl g1)]
            rw [HS.out (by omega), e])
          have t1 : decide (t < 0) = true := by simpa using g1
          clear hd
          go_wp2
          go_ret
          exact ⟨by rw [HV.out]; rfl, HBW.out⟩
        · have t1 : decide (t < 0) = false := by simpa using g1
          by_cases g2 : 1000000000000 < t
          · have HV := Lib.hid (show codeT zs = 9 by
              have e : elT zs k = 9 := by unfold elT; rw [hd, if_pos (.inr g2)]
              rw [HS.out (by omega), e])
            have t2 : decide (1000000000000 < t) = true := by simpa using g2
            clear hd
            go_wp2
            go_ret
            exact ⟨by rw [HV.out]; rfl, HBW.out⟩
          · have t2 : decide (1000000000000 < t) = false := by simpa using g2
            cases k with
            | zero =>
              have HV := Lib.hid (show elT zs 0 = 0 by unfold elT; rw [hd, if_neg (by omega), if_neg (by omega)])
              clear hd
              rw [Nat.add_zero] at qk
              go_wp2_with fail
              go_quiet (fail)
              go_wp2
              go_roundw
              case rel => exact ⟨1, by omega, by go_num, HN.out HV.out, by first | exact HBW.out | exact below_drewN HBW.out _⟩
              case measure => simp [intOf]; omega
            | succ k =>
              obtain ⟨b', o', u', hA, hb', hu', qk'⟩ := (HR.out.below hbw (Nat.le_refl _)).at1 (show k < zs.length by omega)
              obtain ⟨t', ht', rfl⟩ := ints_get hu'
              have hd' := getD_some ht'
              simp only [Option.some.injEq, Addr.mk.injEq, and_true] at hA
              obtain ⟨rfl, rfl⟩ := hA
              have hk1 : ((k + 1 : Nat) : Int) - 1 = (k : Int) := by omega
              have hk2 : (k : Int) + 1 - 1 = (k : Int) := by omega
              by_cases g3 : t < t'
              · have HV := Lib.hid (show codeT zs = 10 by
                  have e : elT zs (k + 1) = 10 := by unfold elT; rw [Nat.add_sub_cancel, hd, hd', if_neg (by omega), if_pos ⟨by omega, g3⟩]
                  rw [HS.out (by omega), e])
                have t3 : decide (t < t') = true := by simpa using g3
                clear hd hd' hu' ht'
                go_wp2_with fail
                go_quiet (fail)
                go_wp2
                go_ret
                exact ⟨by rw [HV.out]; rfl, by first | exact HBW.out | exact below_drewN HBW.out _⟩
              · have t3 : decide (t < t') = false := by simpa using g3
                have HV := Lib.hid (show elT zs (k + 1) = 0 by unfold elT; rw [Nat.add_sub_cancel, hd, hd', if_neg (by omega), if_neg (by omega)])
                clear hd hd' hu' ht'
                go_wp2_with fail
                go_quiet (fail)
                go_wp2
                go_roundw
                case rel => exact ⟨k + 1 + 1, by omega, by go_num, HN.out HV.out, by first | exact HBW.out | exact below_drewN HBW.out _⟩
                case measure => simp [intOf]; omega
      · have HV := Lib.hid (codeT_end h1 (fun j hj => HOK.out j (by omega)))
        go_wp2
        go_ret
        exact ⟨by rw [HV.out]; rfl, HBW.out⟩
end Go.Proofs.YtkoodmoilfgafaaDoor
