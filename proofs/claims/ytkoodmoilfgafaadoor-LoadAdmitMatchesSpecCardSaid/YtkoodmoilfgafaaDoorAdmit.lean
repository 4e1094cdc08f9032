/- Package load: Admit. -/
import Derived.Test.YtkoodmoilfgafaaDoorVessel
import Derived.Test.YtkoodmoilfgafaaDoorGArr
namespace Go.Proofs.YtkoodmoilfgafaaDoor
open Go Go.RowKit Go.Proofs

theorem take_hi {R r h a t h' a' : Int} (hr : 0 ≤ r) (h0 : 0 ≤ h) (hh : h ≤ R) (e : takeS R r (h, a) t = some (h', a')) : a' ≤ max a t + 1000000000 := by
  have f := fill_bd (a := a) (t := t) hr hh
  have f6 : (fillS R r (h, a) t).2 = max a t := rfl
  unfold takeS at e
  split at e
  · split at e
    · cases e
    · rename_i hm hr0
      simp only [Option.some.injEq, Prod.mk.injEq] at e
      have hc := ceil_le (m := 1000000000 - (fillS R r (h, a) t).1) (r := r) (by omega) (by omega)
      have f7 : ∀ s x, (fillS R r s x).2 = max s.2 x := fun s x => rfl
      simp only [f7] at e
      omega
  · simp only [Option.some.injEq, Prod.mk.injEq] at e
    omega
theorem st_hi {R r : Int} {ts : List Int} (hr : 0 ≤ r) (hR : 1000000000 ≤ R) (hts : ∀ t ∈ ts, t ≤ 1000000000000) : ∀ k h a, stS R r ts k = some (h, a) → a ≤ 1000000000000 + k * 1000000000
  | 0, h, a, e => by simp [stS] at e; omega
  | k + 1, h, a, e => by
    obtain ⟨⟨h0, a0⟩, hs⟩ := stS_some e (k := k) (by omega)
    have ht : ∃ t, ts[k]? = some t := by
      cases hx : ts[k]? with
      | some t => exact ⟨t, rfl⟩
      | none => rw [stS, hs, hx] at e; cases e
    obtain ⟨t, ht⟩ := ht
    rw [stS_succ hs ht] at e
    have ih := st_hi hr hR hts k h0 a0 hs
    have b := st_bd hr hR k h0 a0 hs
    have := take_hi hr b.1 b.2.1 e
    have := hts t (List.mem_of_getElem? ht)
    omega
/-- whether one of the first ones is too late -/
def lateS (R r : Int) (ts : List Int) (k : Nat) : Bool := (outsS R r ts k).any (fun t => decide (1000000000000 < t))
theorem lateS_snoc {R r : Int} {ts : List Int} {k : Nat} {s : Int × Int} (h : stS R r ts (k + 1) = some s) : lateS R r ts (k + 1) = (lateS R r ts k || decide (1000000000000 < s.2)) := by
  unfold lateS; rw [outsS_snoc, h]; simp

set_option maxHeartbeats 4000000 in
set_option maxRecDepth 100000 in
theorem admit_any (A : Option Addr) (c : Nat) (ts : List Int) (rate burst : Int) (w : World) (hr : Rd w 0 w.heap.size 1 A ts.length (ints ts)) (hl : ts.length ≤ 9223372036854775807) :
    Calls Tryd.prog 20 #[.slice A ts.length c, .int .i64 rate, .int .i64 burst] w fun e w' => ∃ A' c', e = .returned (.tuple #[.slice A' (admL ts rate burst).length c', .int .i64 (admC ts rate burst)]) ∧ Rd w' 0 w'.heap.size 1 A' (admL ts rate burst).length (ints (admL ts rate burst)) ∧ Below w.heap.size w w' := by
  obtain ⟨ii, hii, hiz0, hiz1, hiz2⟩ := info_parts infoI3
  have HCK := Lib.hid (checkTimes_any A c ts w hr hl)
  have HR := Lib.hid hr
  have HAL := Lib.hid (admL.eq_1 ts rate burst)
  clear hr
  by_cases hc : codeT ts = 0
  · have hok := codeT_ok hc
    rw [hc] at HCK
    have HA0 := Lib.hid (show admC ts rate burst = _ from (admC.eq_1 ts rate burst).trans (if_neg (by rw [hc]; simp)))
    have hn := hok.le
    have HRG := Lib.hid (fun (j : Nat) (t : Int) (h : ts[j]? = some t) => hok.range h)
    clear hok hc
    by_cases ha : admOk rate burst
    · have HA1 := Lib.hid (HA0.out.trans (if_neg (show ¬ ¬ admOk rate burst by simpa using ha)))
      obtain ⟨a1, a2, a3, a4⟩ := ha
      clear HA0
      have t1 : decide (rate < 0) = false := by simp; omega
      have t2 : decide (1000000000 < rate) = false := by simp; omega
      have t3 : decide (burst < 1) = false := by simp; omega
      have t4 : decide (1000000 < burst) = false := by simp; omega
      have hR1 : 1000000000 ≤ burst * 1000000000 := by omega
      have hR2 : burst * 1000000000 ≤ 1000000000000000 := by omega
      go_enter Tryd.func20, Tryd.ntmps20
      go_wp2_with fail
      refine HCK.out.mono ?_
      rintro e w1 ⟨rfl, hb1⟩
      have HB1 := Lib.hid hb1
      have hs1 := hb1.size
      clear hb1
      obtain ⟨W2, hW2⟩ : ∃ W2, W2 = w1.alloc (.cells #[.int .i64 (burst * 1000000000), .int .i64 rate, .int .i64 (burst * 1000000000), .int .i64 0] 71) := ⟨_, rfl⟩
      have HV2 := Lib.hid (show Vsl W2 w1.heap.size (burst * 1000000000) rate (burst * 1000000000) 0 by rw [hW2]; exact alloc_at _ _ _ rfl)
      have hs2 : W2.heap.size = w1.heap.size + 1 := by rw [hW2]; simp
      have HB2 := Lib.hid (show Below w.heap.size w W2 by rw [hW2]; exact below_next HB1.out ((Below.refl _ w1).alloc (Nat.le_refl _) _))
      go_wp2_with (at_make; refine wpList_make_own _ rfl (.const (.int .i64 0)) (.tmp 43) 28 rfl (w1.heap.size + 1) 3 ii _ 1 Tryd.underlying28 hii hiz0 hiz1 .i64 .i64 _ ts.length rfl rfl ?m1 ?m2 ?m3 ?m4 ?_)
      case m1 => rfl
      case m2 => rw [hiz2]; omega
      case m3 => unfold maxLen; omega
      case m4 => simp
      intro w4 hown hgr
      rw [← hW2] at hgr
      have HB4 := Lib.hid (HB2.out.grown hgr (by have := HB2.out.size; omega) (fun k (hk : none = some k) => by cases hk))
      have HV4 := Lib.hid (show Vsl w4 w1.heap.size (burst * 1000000000) rate (burst * 1000000000) 0 from (hgr.block _ (by omega) (by simp)).trans HV2.out)
      have HO4 := Lib.hid hown
      clear hown hgr hW2
      go_wp2_with fail
      go_loopw [10, 11, 13, 14, 15, 47] (fun lv ov _ _ _ iv wr => ∃ k : Nat, ∃ h a : Int, iv = .int .i64 k ∧ lv = .bool (lateS (burst * 1000000000) rate ts k) ∧ k ≤ ts.length ∧ stS (burst * 1000000000) rate ts k = some (h, a) ∧ wr.ownsRow (w1.heap.size + 1) 3 1 ov k (ints (outsS (burst * 1000000000) rate ts k)) ∧ Vsl wr w1.heap.size (burst * 1000000000) rate h a ∧ Below w.heap.size w wr) (fun _ _ _ _ _ iv _ => ts.length - (intOf iv).toNat)
      case atStart => exact ⟨0, burst * 1000000000, 0, rfl, rfl, Nat.zero_le _, rfl, HO4.out, HV4.out, HB4.out⟩
      case round =>
        obtain ⟨k, h, a, rfl, rfl, hk, hst, hown, hv, hbw⟩ := hrel
        have HOW := Lib.hid hown
        have HBW := Lib.hid hbw
        have HST := Lib.hid hst
        have hsz := hbw.size
        have hP1 : w1.heap.size < wr.heap.size := heap_lt hv
        by_cases hlt : k < ts.length
        · obtain ⟨b, o, u, rfl, hb, hu, qk⟩ := (HR.out.below hbw (Nat.le_refl _)).at1 hlt
          obtain ⟨t, ht, rfl⟩ := ints_get hu
          obtain ⟨r1, r2⟩ := HRG.out k t ht
          have hbd := st_bd a1 hR1 k h a hst
          have hhi := st_hi a1 hR1 (fun t ht => by obtain ⟨j, hj⟩ := List.mem_iff_getElem?.1 ht; exact (HRG.out j t hj).2) k h a hst
          have HT := Lib.hid (take_any w1.heap.size (burst * 1000000000) rate h a t wr hv a1 a2 (by omega) (by omega) hR1 hR2 (by omega) (by omega) r1 r2)
          have HSU := Lib.hid (stS_succ hst ht)
          clear hu ht hown hbw hst hv hbd hhi
          cases hts : takeS (burst * 1000000000) rate (h, a) t with
          | none =>
            rw [hts] at HT HSU
            have HE := Lib.hid (show admC ts rate burst = 4 from HA1.out.trans (if_pos (stS_none HSU.out ts.length (by omega))))
            have HEL := Lib.hid (show admL ts rate burst = [] by rw [HAL.out, HE.out, if_neg (by omega)])
            go_wp2_with fail
            refine HT.out.mono ?_
            rintro e w5 ⟨rfl, _, hfr⟩
            have HB5 := Lib.hid (HBW.out.trans (hfr.below hsz (fun i hi hm => by omega)))
            unfold takeV
            go_wp2
            go_ret2
            exact ⟨none, 0, by rw [HE.out, HEL.out]; rfl, by rw [HEL.out]; exact Rd.nil, HB5.out⟩
          | some s =>
            obtain ⟨h', a'⟩ := s
            rw [hts] at HT HSU
            have HLS := Lib.hid (lateS_snoc HSU.out)
            have HES := Lib.hid (show ints (outsS (burst * 1000000000) rate ts (k + 1)) = ints (outsS (burst * 1000000000) rate ts k) ++ [.int .i64 a'] by rw [outsS_snoc, HSU.out]; simp [ints])
            clear hts
            simp only [takeV] at HT HLS
            obtain ⟨lt, hlt2⟩ : ∃ lt, lt = lateS (burst * 1000000000) rate ts k := ⟨_, rfl⟩
            rw [← hlt2] at HLS ⊢
            clear hlt2
            go_wp2_with fail
            refine HT.out.mono ?_
            rintro e w5 ⟨rfl, hv5, hfr⟩
            have HV5 := Lib.hid (hv5 _ rfl)
            have HB5 := Lib.hid (HBW.out.trans (hfr.below hsz (fun i hi hm => by omega)))
            have hs5 := hfr.size
            have HO5 := Lib.hid (ownsRow_fr HOW.out hfr (fun i hi hm => by have := (ownsRow_block HOW.out hi).1; omega))
            clear hfr hv5
            have hcs : (lt = true ∧ lateS (burst * 1000000000) rate ts (k + 1) = true) ∨ (lt = false ∧ decide (1000000000000 < a') = true ∧ lateS (burst * 1000000000) rate ts (k + 1) = true) ∨ (lt = false ∧ decide (1000000000000 < a') = false ∧ lateS (burst * 1000000000) rate ts (k + 1) = false) := by
              rw [HLS.out]; cases lt <;> cases decide (1000000000000 < a') <;> simp
            clear HLS
            rcases hcs with ⟨rfl, hL⟩ | ⟨rfl, hd, hL⟩ | ⟨rfl, hd, hL⟩
            all_goals have HL := Lib.hid hL
            all_goals clear hL
            all_goals go_wp2_with (at_builtin; refine wpList_append_own _ rfl (.tmp 64) (.tmp 66) 28 rfl (w1.heap.size + 1) 3 ii _ 1 8 Tryd.underlying28 hii hiz0 hiz1 hiz2 rfl (by decide) _ k (ints (outsS (burst * 1000000000) rate ts k)) rfl (HO5.out.alloc _) ⟨w5.heap.size, 0, none⟩ 1 1 [.int .i64 a'] rfl rfl (cell_one_new w5 (.int .i64 a') 3) (by simp [Value.oneCell']) (by unfold maxLen; omega) (by omega) (by simp; omega) ?_)
            all_goals intro v' w6 hown6 hgr6 _
            all_goals have HB6 := Lib.hid (show Below w.heap.size w w6 from (HB5.out.alloc (by omega) _).trans ((Fr.of_grown hgr6).below (B := w.heap.size) (by simp; omega) (fun i hi hm => by have := (ownsRow_block HO5.out hm).1; omega)))
            all_goals have HV6 := Lib.hid (show Vsl w6 w1.heap.size (burst * 1000000000) rate h' a' from (hgr6.block w1.heap.size (by simp; omega) (fun hm => by have := (ownsRow_block HO5.out hm).1; omega)).trans ((Below.heap_alloc w5 _ _ (by omega)).trans HV5.out))
            all_goals have HO6 := Lib.hid (show w6.ownsRow (w1.heap.size + 1) 3 1 v' (k + 1) (ints (outsS (burst * 1000000000) rate ts (k + 1))) by rw [HES.out]; exact hown6)
            all_goals clear hown6 hgr6
            all_goals go_wp2
            all_goals go_roundw
            case rel => exact ⟨k + 1, h', a', by go_num, by rw [HL.out], by omega, HSU.out, HO6.out, HV6.out, HB6.out⟩
            case measure => simp [intOf]; omega
            case rel => exact ⟨k + 1, h', a', by go_num, by rw [HL.out], by omega, HSU.out, HO6.out, HV6.out, HB6.out⟩
            case measure => simp [intOf]; omega
            case rel => exact ⟨k + 1, h', a', by go_num, by rw [HL.out], by omega, HSU.out, HO6.out, HV6.out, HB6.out⟩
            case measure => simp [intOf]; omega
        · obtain rfl : k = ts.length := by omega
          obtain ⟨A', c', rfl, _, _, _⟩ := ownsRow_shape hown
          have HRD := Lib.hid ((Rd.of_own hown).more (Nat.zero_le _) (Nat.le_refl _))
          have HLT := Lib.hid (show (outsS (burst * 1000000000) rate ts ts.length).any (fun t => decide (1000000000000 < t)) = lateS (burst * 1000000000) rate ts ts.length from rfl)
          have HA2 := Lib.hid (HA1.out.trans (if_neg (by rw [HST.out]; simp)))
          rw [HLT.out] at HA2
          obtain ⟨lt, hlt2⟩ : ∃ lt, lt = lateS (burst * 1000000000) rate ts ts.length := ⟨_, rfl⟩
          rw [← hlt2] at HA2 ⊢
          clear hown hbw hlt2 HLT
          cases lt with
          | true =>
            have HE := Lib.hid (show admC ts rate burst = 3 from HA2.out)
            have HEL := Lib.hid (show admL ts rate burst = [] by rw [HAL.out, HE.out, if_neg (by omega)])
            go_wp2
            go_ret2
            exact ⟨none, ⟨0, by rw [HE.out, HEL.out]; rfl⟩, by rw [HEL.out]; exact Rd.nil, HBW.out⟩
          | false =>
            have HE := Lib.hid (show admC ts rate burst = 0 from HA2.out)
            have HEL := Lib.hid (show admL ts rate burst = outsS (burst * 1000000000) rate ts ts.length by rw [HAL.out, HE.out, if_pos rfl])
            go_wp2
            go_ret2
            refine ⟨A', c', ?_, ?_, HBW.out⟩
            · rw [HE.out, HEL.out, outsS_length]; rfl
            · rw [HEL.out, outsS_length]; exact HRD.out
    · have HE := Lib.hid (show admC ts rate burst = 9 from HA0.out.trans (if_pos ha))
      have HEL := Lib.hid (show admL ts rate burst = [] by rw [HAL.out, HE.out, if_neg (by omega)])
      have hbad : decide (rate < 0) = true ∨ (decide (rate < 0) = false ∧ decide (1000000000 < rate) = true) ∨ (decide (rate < 0) = false ∧ decide (1000000000 < rate) = false ∧ decide (burst < 1) = true) ∨ (decide (rate < 0) = false ∧ decide (1000000000 < rate) = false ∧ decide (burst < 1) = false ∧ decide (1000000 < burst) = true) := by
        unfold admOk at ha; simp; omega
      clear ha
      rcases hbad with t1 | ⟨t1, t2⟩ | ⟨t1, t2, t3⟩ | ⟨t1, t2, t3, t4⟩
      all_goals go_enter Tryd.func20, Tryd.ntmps20
      all_goals go_wp2_with fail
      all_goals refine HCK.out.mono ?_
      all_goals rintro e w1 ⟨rfl, hb1⟩
      all_goals go_wp2
      all_goals go_ret2
      all_goals exact ⟨none, 0, by rw [HE.out, HEL.out]; rfl, by rw [HEL.out]; exact Rd.nil, hb1⟩
  · obtain ⟨cc, hcc⟩ : ∃ cc, cc = codeT ts := ⟨_, rfl⟩
    have HE := Lib.hid (show admC ts rate burst = cc from (admC.eq_1 ts rate burst).trans ((if_pos hc).trans hcc.symm))
    rw [← hcc] at HCK hc
    have t1 : (cc != 0) = true := by simpa using hc
    have HEL := Lib.hid (show admL ts rate burst = [] by rw [HAL.out, HE.out, if_neg hc])
    clear hcc
    go_enter Tryd.func20, Tryd.ntmps20
    go_wp2_with fail
    refine HCK.out.mono ?_
    rintro e w1 ⟨rfl, hb1⟩
    go_wp2
    go_ret2
    exact ⟨none, 0, by rw [HE.out, HEL.out]; rfl, by rw [HEL.out]; exact Rd.nil, hb1⟩
end Go.Proofs.YtkoodmoilfgafaaDoor
