/- Cusum, of package judge and of the reference: the same plain function. Printed by gen_cus.py. -/
import Derived.Test.YtnpfdelklolchaaGreatDoorG35
namespace Go.Proofs.YtnpfdelklolchaaGreatDoor
open Go Go.RowKit Go.Proofs

/-- behind which element the sum of deviations is too great -/
def cusF (t sl lim : Int) : Int → Nat → List Int → Option Nat
  | _, _, [] => none
  | s, i, x :: l => if lim < max 0 (s + x - t - sl) then some i else cusF t sl lim (max 0 (s + x - t - sl)) (i + 1) l
def cusT : Option Nat → Value
  | some i => .tuple #[.int .i64 (i : Int), .bool true, .int .i64 0]
  | none => .tuple #[.int .i64 0, .bool false, .int .i64 0]
/-- what Cusum returns -/
def cusV (l : List Int) (t sl lim : Int) : Value :=
  if 300 < l.length then .tuple #[.int .i64 0, .bool false, .int .i64 3]
  else if okZ l = true then
    (if (-1000000 ≤ t ∧ t ≤ 1000000) ∧ (0 ≤ sl ∧ sl ≤ 1000000000000) ∧ (0 ≤ lim ∧ lim ≤ 1000000000000) then cusT (cusF t sl lim 0 0 l) else .tuple #[.int .i64 0, .bool false, .int .i64 9])
  else .tuple #[.int .i64 0, .bool false, .int .i64 9]
section
variable {l : List Int} {t sl lim : Int}
theorem cusV_long (h : 300 < l.length) : cusV l t sl lim = .tuple #[.int .i64 0, .bool false, .int .i64 3] := by unfold cusV; rw [if_pos h]
theorem cusV_bad (h : l.length ≤ 300) (h2 : ¬ okZ l = true) : cusV l t sl lim = .tuple #[.int .i64 0, .bool false, .int .i64 9] := by unfold cusV; rw [if_neg (by omega), if_neg h2]
theorem cusV_rng (h : l.length ≤ 300) (h2 : okZ l = true) (h3 : ¬ ((-1000000 ≤ t ∧ t ≤ 1000000) ∧ (0 ≤ sl ∧ sl ≤ 1000000000000) ∧ (0 ≤ lim ∧ lim ≤ 1000000000000))) : cusV l t sl lim = .tuple #[.int .i64 0, .bool false, .int .i64 9] := by unfold cusV; rw [if_neg (by omega), if_pos h2, if_neg h3]
theorem cusV_ok (h : l.length ≤ 300) (h2 : okZ l = true) (h3 : (-1000000 ≤ t ∧ t ≤ 1000000) ∧ (0 ≤ sl ∧ sl ≤ 1000000000000) ∧ (0 ≤ lim ∧ lim ≤ 1000000000000)) : cusV l t sl lim = cusT (cusF t sl lim 0 0 l) := by unfold cusV; rw [if_neg (by omega), if_pos h2, if_pos h3]
end
theorem cusF_at {l : List Int} {k : Nat} {x : Int} (h : l[k]? = some x) (t sl lim s : Int) (i : Nat) : cusF t sl lim s i (l.drop k) = if lim < max 0 (s + x - t - sl) then some i else cusF t sl lim (max 0 (s + x - t - sl)) (i + 1) (l.drop (k + 1)) := by
  have hlt := (List.getElem?_eq_some_iff.1 h).1
  rw [List.drop_eq_getElem_cons hlt, (List.getElem?_eq_some_iff.1 h).2, cusF]
set_option maxHeartbeats 8000000 in
set_option maxRecDepth 100000 in
theorem jCusum_any (A : Option Addr) (c : Nat) (l : List Int) (t sl lim : Int) (w : World) (hr : Rd w 0 w.heap.size 1 A l.length (ints l)) (hl : l.length ≤ 4611686018427387904) :
    Calls Tryz.prog 15 #[.slice A l.length c, .int .i64 t, .int .i64 sl, .int .i64 lim] w fun e w' => e = .returned (cusV l t sl lim) ∧ Below w.heap.size w w' := by
  have HR := Lib.hid hr
  have HV0 := Lib.hid (cusV_long (l := l) (t := t) (sl := sl) (lim := lim))
  have HV1 := Lib.hid (cusV_bad (l := l) (t := t) (sl := sl) (lim := lim))
  have HV2 := Lib.hid (cusV_rng (l := l) (t := t) (sl := sl) (lim := lim))
  have HV3 := Lib.hid (cusV_ok (l := l) (t := t) (sl := sl) (lim := lim))
  obtain ⟨V, hV⟩ : ∃ V, V = cusV l t sl lim := ⟨_, rfl⟩
  rw [← hV] at HV0 HV1 HV2 HV3 ⊢
  clear hr hV
  by_cases h1 : 300 < l.length
  · have h1z : (300 : Int) < (l.length : Int) := by omega
    have HE := Lib.hid (HV0.out h1)
    go_enter Tryz.func15, Tryz.ntmps15
    go_wp2
    refine bodyPost_ret (v := .tuple #[.int .i64 0, .bool false, .int .i64 3]) (by simp [results, Tryz.results15, go_sem]) rfl ⟨by rw [HE.out], Below.refl _ _⟩
  · have h1z : ¬ (300 : Int) < (l.length : Int) := by omega
    have HCK := Lib.hid (jChkNum_any A c l w HR.out (by omega))
    by_cases h2 : okZ l = true
    · rw [if_pos h2] at HCK
      have HM := Lib.hid (show ∀ x ∈ l, -1000000 ≤ x ∧ x ≤ 1000000 from fun x hx => okZ_mem h2 hx)
      have HV2 := Lib.hid (HV2.out (by omega) h2)
      have HV3 := Lib.hid (HV3.out (by omega) h2)
      clear HV0 HV1 h2
      have HI1 := Lib.hid (fun W => jInside_any t (-1000000) 1000000 W)
      have HI2 := Lib.hid (fun W => jInside_any sl 0 1000000000000 W)
      have HI3 := Lib.hid (fun W => jInside_any lim 0 1000000000000 W)
      obtain ⟨bt, hbt⟩ : ∃ b, b = (decide (-1000000 ≤ t) && decide (t ≤ 1000000)) := ⟨_, rfl⟩
      obtain ⟨bs, hbs⟩ : ∃ b, b = (decide (0 ≤ sl) && decide (sl ≤ 1000000000000)) := ⟨_, rfl⟩
      obtain ⟨bl, hbl⟩ : ∃ b, b = (decide (0 ≤ lim) && decide (lim ≤ 1000000000000)) := ⟨_, rfl⟩
      rw [← hbt] at HI1
      rw [← hbs] at HI2
      rw [← hbl] at HI3
      have HT := Lib.hid hbt
      have HS := Lib.hid hbs
      have HL := Lib.hid hbl
      clear hbt hbs hbl
      go_enter Tryz.func15, Tryz.ntmps15
      go_wp2_with fail
      (with_reducible refine (HCK.out).mono ?_)
      rintro e w1 ⟨rfl, hb1⟩
      have HB1 := Lib.hid hb1
      clear hb1
      go_wp2_with fail
      (with_reducible refine (HI1.out w1).mono ?_)
      rintro e w1' ⟨rfl, rfl⟩
      cases bt with
      | false =>
        have HE := Lib.hid (HV2.out (by have h := HT.out; rintro ⟨⟨a1, a2⟩, _⟩; rw [decide_eq_true a1, decide_eq_true a2] at h; cases h))
        go_wp2
        refine bodyPost_ret (v := .tuple #[.int .i64 0, .bool false, .int .i64 9]) (by simp [results, Tryz.results15, go_sem]) rfl ⟨by rw [HE.out], HB1.out⟩
      | true =>
        go_wp2_with fail
        (with_reducible refine (HI2.out w1).mono ?_)
        rintro e w1' ⟨rfl, rfl⟩
        cases bs with
        | false =>
          have HE := Lib.hid (HV2.out (by have h := HS.out; rintro ⟨_, ⟨a1, a2⟩, _⟩; rw [decide_eq_true a1, decide_eq_true a2] at h; cases h))
          go_wp2
          refine bodyPost_ret (v := .tuple #[.int .i64 0, .bool false, .int .i64 9]) (by simp [results, Tryz.results15, go_sem]) rfl ⟨by rw [HE.out], HB1.out⟩
        | true =>
          go_wp2_with fail
          (with_reducible refine (HI3.out w1).mono ?_)
          rintro e w1' ⟨rfl, rfl⟩
          cases bl with
          | false =>
            have HE := Lib.hid (HV2.out (by have h := HL.out; rintro ⟨_, _, ⟨a1, a2⟩⟩; rw [decide_eq_true a1, decide_eq_true a2] at h; cases h))
            go_wp2
            refine bodyPost_ret (v := .tuple #[.int .i64 0, .bool false, .int .i64 9]) (by simp [results, Tryz.results15, go_sem]) rfl ⟨by rw [HE.out], HB1.out⟩
          | true =>
            have hok : (-1000000 ≤ t ∧ t ≤ 1000000) ∧ (0 ≤ sl ∧ sl ≤ 1000000000000) ∧ (0 ≤ lim ∧ lim ≤ 1000000000000) := by
              have g1 := HT.out
              have g2 := HS.out
              have g3 := HL.out
              simp at g1 g2 g3
              omega
            obtain ⟨⟨t1, t2⟩, ⟨s1, s2⟩, ⟨m1, m2⟩⟩ := hok
            have HE3 := Lib.hid (HV3.out ⟨⟨t1, t2⟩, ⟨s1, s2⟩, ⟨m1, m2⟩⟩)
            clear HV2 HV3
            go_wp2
            go_loopw [12, 38] (fun sv iv wr => ∃ (S : Int) (i : Nat), sv = .int .i64 S ∧ iv = .int .i64 (i : Int) ∧ i ≤ l.length ∧ 0 ≤ S ∧ S ≤ 2000000 * (i : Int) ∧ cusF t sl lim 0 0 l = cusF t sl lim S i (l.drop i) ∧ Below w.heap.size w wr) (fun _ iv _ => l.length - (intOf iv).toNat)
            case atStart => exact ⟨0, 0, rfl, rfl, Nat.zero_le _, by omega, by omega, rfl, HB1.out⟩
            case round =>
              obtain ⟨S, i, rfl, rfl, hi, hs0, hs1, hc, hb⟩ := hrel
              have HB := Lib.hid hb
              by_cases hlt : i < l.length
              · have hltz : (i : Int) < (l.length : Int) := by omega
                obtain ⟨b', o', u, rfl, hbB, hu, hcell⟩ := (HR.out.below hb (Nat.le_refl _)).at1 hlt
                obtain ⟨x, hx, rfl⟩ := ints_get hu
                obtain ⟨x1, x2⟩ := HM.out x (List.mem_of_getElem? hx)
                have HC := Lib.hid (show cusF t sl lim 0 0 l = _ from hc.trans (cusF_at hx t sl lim S i))
                obtain ⟨m, hm⟩ : ∃ m, m = max 0 (S + x - t - sl) := ⟨_, rfl⟩
                rw [← hm] at HC
                have q0 : IntKind.i64.wrap (S + x) = S + x := by rw [IntKind.wrap_i64]; omega
                have q1 : IntKind.i64.wrap (S + x - t) = S + x - t := by rw [IntKind.wrap_i64]; omega
                have q2 : IntKind.i64.wrap (S + x - t - sl) = S + x - t - sl := by rw [IntKind.wrap_i64]; omega
                have hm0 : 0 ≤ m := by omega
                have hm1 : m ≤ 2000000 * ((i : Int) + 1) := by omega
                have HMM := Lib.hid hm
                by_cases hg : lim < m
                · have hgz : lim < max 0 (S + x - t - sl) := by omega
                  have HE := Lib.hid (show V = .tuple #[.int .i64 (i : Int), .bool true, .int .i64 0] by rw [HE3.out, HC.out, if_pos hg]; rfl)
                  clear hu hx hc hb hbB hm hg HC
                  go_wp2
                  refine bodyPost_ret (v := .tuple #[.int .i64 (i : Int), .bool true, .int .i64 0]) (by simp [results, Tryz.results15, go_sem]) rfl ⟨by rw [HE.out], HB.out⟩
                · have hgz : ¬ lim < max 0 (S + x - t - sl) := by omega
                  have HN := Lib.hid (show cusF t sl lim 0 0 l = cusF t sl lim m (i + 1) (l.drop (i + 1)) by rw [HC.out, if_neg hg])
                  clear hu hx hc hb hbB hm hg HC
                  go_wp2
                  go_roundw
                  case rel => exact ⟨m, i + 1, by rw [HMM.out]; try rfl, by go_num, by omega, hm0, by omega, HN.out, HB.out⟩
                  case measure => simp [intOf]; omega
              · have hltz : ¬ (i : Int) < (l.length : Int) := by omega
                have HE := Lib.hid (show V = .tuple #[.int .i64 0, .bool false, .int .i64 0] by rw [HE3.out, hc, List.drop_of_length_le (by omega)]; rfl)
                clear hc hb
                go_wp2
                refine bodyPost_ret (v := .tuple #[.int .i64 0, .bool false, .int .i64 0]) (by simp [results, Tryz.results15, go_sem]) rfl ⟨by rw [HE.out], HB.out⟩
    · rw [if_neg h2] at HCK
      have HE := Lib.hid (HV1.out (by omega) h2)
      clear HV0 HV1 HV2 HV3 h2
      go_enter Tryz.func15, Tryz.ntmps15
      go_wp2_with fail
      (with_reducible refine (HCK.out).mono ?_)
      rintro e w1 ⟨rfl, hb1⟩
      have HB1 := Lib.hid hb1
      clear hb1
      go_wp2
      refine bodyPost_ret (v := .tuple #[.int .i64 0, .bool false, .int .i64 9]) (by simp [results, Tryz.results15, go_sem]) rfl ⟨by rw [HE.out], HB1.out⟩
set_option maxHeartbeats 8000000 in
set_option maxRecDepth 100000 in
theorem r10Cusum_any (A : Option Addr) (c : Nat) (l : List Int) (t sl lim : Int) (w : World) (hr : Rd w 0 w.heap.size 1 A l.length (ints l)) (hl : l.length ≤ 4611686018427387904) :
    Calls Tryz.prog 16 #[.slice A l.length c, .int .i64 t, .int .i64 sl, .int .i64 lim] w fun e w' => e = .returned (cusV l t sl lim) ∧ Below w.heap.size w w' := by
  have HR := Lib.hid hr
  have HV0 := Lib.hid (cusV_long (l := l) (t := t) (sl := sl) (lim := lim))
  have HV1 := Lib.hid (cusV_bad (l := l) (t := t) (sl := sl) (lim := lim))
  have HV2 := Lib.hid (cusV_rng (l := l) (t := t) (sl := sl) (lim := lim))
  have HV3 := Lib.hid (cusV_ok (l := l) (t := t) (sl := sl) (lim := lim))
  obtain ⟨V, hV⟩ : ∃ V, V = cusV l t sl lim := ⟨_, rfl⟩
  rw [← hV] at HV0 HV1 HV2 HV3 ⊢
  clear hr hV
  by_cases h1 : 300 < l.length
  · have h1z : (300 : Int) < (l.length : Int) := by omega
    have HE := Lib.hid (HV0.out h1)
    go_enter Tryz.func16, Tryz.ntmps16
    go_wp2
    refine bodyPost_ret (v := .tuple #[.int .i64 0, .bool false, .int .i64 3]) (by simp [results, Tryz.results16, go_sem]) rfl ⟨by rw [HE.out], Below.refl _ _⟩
  · have h1z : ¬ (300 : Int) < (l.length : Int) := by omega
    have HCK := Lib.hid (rNumF_any A c l w HR.out (by omega))
    by_cases h2 : okZ l = true
    · rw [if_pos h2] at HCK
      have HM := Lib.hid (show ∀ x ∈ l, -1000000 ≤ x ∧ x ≤ 1000000 from fun x hx => okZ_mem h2 hx)
      have HV2 := Lib.hid (HV2.out (by omega) h2)
      have HV3 := Lib.hid (HV3.out (by omega) h2)
      clear HV0 HV1 h2
      go_enter Tryz.func16, Tryz.ntmps16
      go_wp2_with fail
      (with_reducible refine (HCK.out).mono ?_)
      rintro e w1 ⟨rfl, hb1⟩
      have HB1 := Lib.hid hb1
      clear hb1
      by_cases k1 : t < -1000000
      · have HE := Lib.hid (HV2.out (by omega))
        go_wp2
        refine bodyPost_ret (v := .tuple #[.int .i64 0, .bool false, .int .i64 9]) (by simp [results, Tryz.results16, go_sem]) rfl ⟨by rw [HE.out], HB1.out⟩
      · skip
        by_cases k2 : 1000000 < t
        · have HE := Lib.hid (HV2.out (by omega))
          go_wp2
          refine bodyPost_ret (v := .tuple #[.int .i64 0, .bool false, .int .i64 9]) (by simp [results, Tryz.results16, go_sem]) rfl ⟨by rw [HE.out], HB1.out⟩
        · skip
          by_cases k3 : sl < 0
          · have HE := Lib.hid (HV2.out (by omega))
            go_wp2
            refine bodyPost_ret (v := .tuple #[.int .i64 0, .bool false, .int .i64 9]) (by simp [results, Tryz.results16, go_sem]) rfl ⟨by rw [HE.out], HB1.out⟩
          · skip
            by_cases k4 : 1000000000000 < sl
            · have HE := Lib.hid (HV2.out (by omega))
              go_wp2
              refine bodyPost_ret (v := .tuple #[.int .i64 0, .bool false, .int .i64 9]) (by simp [results, Tryz.results16, go_sem]) rfl ⟨by rw [HE.out], HB1.out⟩
            · skip
              by_cases k5 : lim < 0
              · have HE := Lib.hid (HV2.out (by omega))
                go_wp2
                refine bodyPost_ret (v := .tuple #[.int .i64 0, .bool false, .int .i64 9]) (by simp [results, Tryz.results16, go_sem]) rfl ⟨by rw [HE.out], HB1.out⟩
              · skip
                by_cases k6 : 1000000000000 < lim
                · have HE := Lib.hid (HV2.out (by omega))
                  go_wp2
                  refine bodyPost_ret (v := .tuple #[.int .i64 0, .bool false, .int .i64 9]) (by simp [results, Tryz.results16, go_sem]) rfl ⟨by rw [HE.out], HB1.out⟩
                · skip
                  have hok : (-1000000 ≤ t ∧ t ≤ 1000000) ∧ (0 ≤ sl ∧ sl ≤ 1000000000000) ∧ (0 ≤ lim ∧ lim ≤ 1000000000000) := by omega
                  obtain ⟨⟨t1, t2⟩, ⟨s1, s2⟩, ⟨m1, m2⟩⟩ := hok
                  have HE3 := Lib.hid (HV3.out ⟨⟨t1, t2⟩, ⟨s1, s2⟩, ⟨m1, m2⟩⟩)
                  clear HV2 HV3
                  go_wp2
                  go_loopw [12, 13] (fun sv iv wr => ∃ (S : Int) (i : Nat), sv = .int .i64 S ∧ iv = .int .i64 (i : Int) ∧ i ≤ l.length ∧ 0 ≤ S ∧ S ≤ 2000000 * (i : Int) ∧ cusF t sl lim 0 0 l = cusF t sl lim S i (l.drop i) ∧ Below w.heap.size w wr) (fun _ iv _ => l.length - (intOf iv).toNat)
                  case atStart => exact ⟨0, 0, rfl, rfl, Nat.zero_le _, by omega, by omega, rfl, HB1.out⟩
                  case round =>
                    obtain ⟨S, i, rfl, rfl, hi, hs0, hs1, hc, hb⟩ := hrel
                    have HB := Lib.hid hb
                    by_cases hlt : i < l.length
                    · have hltz : (i : Int) < (l.length : Int) := by omega
                      obtain ⟨b', o', u, rfl, hbB, hu, hcell⟩ := (HR.out.below hb (Nat.le_refl _)).at1 hlt
                      obtain ⟨x, hx, rfl⟩ := ints_get hu
                      obtain ⟨x1, x2⟩ := HM.out x (List.mem_of_getElem? hx)
                      have HC := Lib.hid (show cusF t sl lim 0 0 l = _ from hc.trans (cusF_at hx t sl lim S i))
                      obtain ⟨m, hm⟩ : ∃ m, m = max 0 (S + x - t - sl) := ⟨_, rfl⟩
                      rw [← hm] at HC
                      have q0 : IntKind.i64.wrap (S + x) = S + x := by rw [IntKind.wrap_i64]; omega
                      have q1 : IntKind.i64.wrap (S + x - t) = S + x - t := by rw [IntKind.wrap_i64]; omega
                      have q2 : IntKind.i64.wrap (S + x - t - sl) = S + x - t - sl := by rw [IntKind.wrap_i64]; omega
                      have hm0 : 0 ≤ m := by omega
                      have hm1 : m ≤ 2000000 * ((i : Int) + 1) := by omega
                      have HMM := Lib.hid hm
                      by_cases hg : lim < m
                      · have hgz : lim < max 0 (S + x - t - sl) := by omega
                        have HE := Lib.hid (show V = .tuple #[.int .i64 (i : Int), .bool true, .int .i64 0] by rw [HE3.out, HC.out, if_pos hg]; rfl)
                        clear hu hx hc hb hbB hm hg HC
                        go_wp2
                        refine bodyPost_ret (v := .tuple #[.int .i64 (i : Int), .bool true, .int .i64 0]) (by simp [results, Tryz.results16, go_sem]) rfl ⟨by rw [HE.out], HB.out⟩
                      · have hgz : ¬ lim < max 0 (S + x - t - sl) := by omega
                        have HN := Lib.hid (show cusF t sl lim 0 0 l = cusF t sl lim m (i + 1) (l.drop (i + 1)) by rw [HC.out, if_neg hg])
                        clear hu hx hc hb hbB hm hg HC
                        go_wp2
                        go_roundw
                        case rel => exact ⟨m, i + 1, by rw [HMM.out]; try rfl, by go_num, by omega, hm0, by omega, HN.out, HB.out⟩
                        case measure => simp [intOf]; omega
                    · have hltz : ¬ (i : Int) < (l.length : Int) := by omega
                      have HE := Lib.hid (show V = .tuple #[.int .i64 0, .bool false, .int .i64 0] by rw [HE3.out, hc, List.drop_of_length_le (by omega)]; rfl)
                      clear hc hb
                      go_wp2
                      refine bodyPost_ret (v := .tuple #[.int .i64 0, .bool false, .int .i64 0]) (by simp [results, Tryz.results16, go_sem]) rfl ⟨by rw [HE.out], HB.out⟩
    · rw [if_neg h2] at HCK
      have HE := Lib.hid (HV1.out (by omega) h2)
      clear HV0 HV1 HV2 HV3 h2
      go_enter Tryz.func16, Tryz.ntmps16
      go_wp2_with fail
      (with_reducible refine (HCK.out).mono ?_)
      rintro e w1 ⟨rfl, hb1⟩
      have HB1 := Lib.hid hb1
      clear hb1
      go_wp2
      refine bodyPost_ret (v := .tuple #[.int .i64 0, .bool false, .int .i64 9]) (by simp [results, Tryz.results16, go_sem]) rfl ⟨by rw [HE.out], HB1.out⟩
end Go.Proofs.YtnpfdelklolchaaGreatDoor
