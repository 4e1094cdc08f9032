/- Package dynamometerref10: short ratios (shortFault), FromRatio of a ratio that is one. -/
import Derived.Test.YtpmnhdgajkickaaGreatDoorR10Chk
import Derived.Test.YtpmnhdgajkickaaGreatDoorG39
import Derived.Test.YtpmnhdgajkickaaGreatDoorG23
namespace Go.Proofs.YtpmnhdgajkickaaGreatDoor
open Go Go.RowKit Go.Proofs

theorem rFrom_any (Sa Sb : ByteArray) (a b : List UInt8) (w : World) (hSa : Sa.data.toList = a) (hSb : Sb.data.toList = b) (h : cRt a b = 0) :
    Calls Tryz.prog 14 #[.agg #[.string Sa, .string Sb]] w (FracPost (ratX a b) w) := by
  obtain ⟨h1, h2, h3, h4, h5, h6, h7⟩ := cRt_zero h
  have hdu := (dgB_digits h1).2.1
  have hdb := (dgB_digits h2).2.1
  have hpu : 0 < (unsg a).length := List.length_pos_iff.2 (dgB_digits h1).1
  have hy := dgV_pos h2 h3
  unfold ratX
  cases hs : sgB a with
  | false =>
    have e := unsg_pos hs
    have := rFromRat_s Sa Sb (unsg a) b w (by rw [e]; exact hSa) hSb (by omega) (by omega) hpu hdu hdb hy
    exact this
  | true =>
    have := rFromRatN_s Sa Sb (unsg a) b w (by rw [← unsg_neg hs]; exact hSa) hSb (by omega) (by omega) hpu hdu hdb hy
    exact this
/-- sizes of a ratio that is one -/
theorem ratX_sz {a b : List UInt8} {E : Nat} (h : cRt a b = 0) (hE : 2000 ≤ E) : Sz E (ratX a b) := by
  obtain ⟨h1, h2, h3, h4, h5, h6, h7⟩ := cRt_zero h
  obtain ⟨p1, p2, p3, p4⟩ := ratX_good h
  have hdu := dgV_lt (dgB_digits h1).2.1
  have hdb := dgV_lt (dgB_digits h2).2.1
  have key : ∀ n E, n ≤ E → (10 : Nat) ^ n ≤ T4 ^ E := fun n E hn => Nat.le_trans (Nat.pow_le_pow_right (by omega) hn) (Nat.pow_le_pow_left (by unfold T4; omega) _)
  refine ⟨?_, ?_⟩
  · rw [p2]; exact Nat.lt_of_lt_of_le hdu (key _ _ (by omega))
  · rw [p3]; exact Nat.lt_of_lt_of_le hdb (key _ _ (by omega))
/-- the code of a short ratio, with the ends as numbers -/
def shR (lo hi : Int) (op : Bool) (a b : List UInt8) : Int := if cRt a b ≠ 0 then cRt a b else if 6 < (unsg a).length ∨ 6 < b.length then 3 else if outB lo hi op (ratX a b) = true then 9 else 0
theorem shR_eq (k : Rg) (a b : List UInt8) : shR (rgLo k) (rgHi k) (rgOp k) a b = shC k a b := by
  unfold shR shC
  split
  · rfl
  · split
    · rfl
    · rw [outB_in]
      cases inQ k (ratX a b) <;> rfl
theorem shR_bad {lo hi : Int} {op : Bool} {a b : List UInt8} (h : cRt a b ≠ 0) : shR lo hi op a b = cRt a b := by unfold shR; rw [if_pos h]
theorem shR_size {lo hi : Int} {op : Bool} {a b : List UInt8} (h : cRt a b = 0) (h2 : 6 < (unsg a).length ∨ 6 < b.length) : shR lo hi op a b = 3 := by unfold shR; rw [if_neg (by omega), if_pos h2]
theorem shR_rg {lo hi : Int} {op : Bool} {a b : List UInt8} (h : cRt a b = 0) (h2 : ¬ (6 < (unsg a).length ∨ 6 < b.length)) : shR lo hi op a b = if (decide (ordQ (ratX a b) (lo : Rat) < 0) || decide ((if 0 ≤ hi then ordQ (hi : Rat) (ratX a b) else 1) < 0) || (op && (decide (ordQ (ratX a b) (lo : Rat) = 0) || decide ((if 0 ≤ hi then ordQ (hi : Rat) (ratX a b) else 1) = 0)))) = true then 9 else 0 := by
  unfold shR; rw [if_neg (by omega), if_neg h2]; rfl
def RB3 (W : World) (B : Nat) (s : Bool) (A1 : Option Addr) (n1 c1 : Nat) (A2 : Option Addr) (n2 c2 : Nat) : Prop := W.cell? ⟨B, 0, none⟩ = some (.bool s) ∧ W.cell? ⟨B, 1, none⟩ = some (.slice A1 n1 c1) ∧ W.cell? ⟨B, 2, none⟩ = some (.slice A2 n2 c2)
set_option maxHeartbeats 4000000 in
set_option maxRecDepth 100000 in
theorem rShortR_any (Sa Sb : ByteArray) (a b : List UInt8) (lo hi : Int) (op : Bool) (w : World) (hSa : Sa.data.toList = a) (hSb : Sb.data.toList = b) (ha : Sa.size ≤ 9223372036854775800) (hb : Sb.size ≤ 9223372036854775800) (hlo : -10 ≤ lo) (hlo2 : lo ≤ 10) (hhi : -10 ≤ hi) (hhi2 : hi ≤ 10) :
    Calls Tryz.prog 39 #[.agg #[.string Sa, .string Sb], .int .i64 lo, .int .i64 hi, .bool op] w fun e w' => e = .returned (.int .i64 (shR lo hi op a b)) ∧ Below w.heap.size w w' := by
  have HU := Lib.hid (fun W => rUnsigned_any Sa a W hSa (by omega))
  obtain ⟨SU, hSU⟩ : ∃ SU : ByteArray, SU = ⟨(unsg a).toArray⟩ := ⟨_, rfl⟩
  rw [← hSU] at HU
  have hU : SU.data.toList = unsg a := by rw [hSU]
  have hzb := ba_size hSb
  have hzu := ba_size hU
  have HCK := Lib.hid (fun W => rChk_any Sa Sb a b W hSa hSb ha hb)
  obtain ⟨cc, hcc⟩ : ∃ cc, cc = cRt a b := ⟨_, rfl⟩
  rw [← hcc] at HCK
  obtain ⟨W0, hW0⟩ : ∃ W0, W0 = w.alloc (.cells #[.string Sa, .string Sb] 23) := ⟨_, rfl⟩
  have HST0 := Lib.hid (show St w W0 [(w.heap.size, .cells #[.string Sa, .string Sb] 23 (0, 0))] by rw [hW0]; exact (St.start w).alloc _ _ rfl)
  have HKS := Lib.hid (show ∀ X, Below W0.heap.size W0 X → (fun X => Below W0.heap.size W0 X ∧ X.cell? ⟨w.heap.size, 0, none⟩ = some (.string Sa) ∧ X.cell? ⟨w.heap.size, 1, none⟩ = some (.string Sb)) X from fun X hX => ⟨hX, (HST0.out.call hX).cell 0 0 rfl rfl, (HST0.out.call hX).cell 0 1 rfl rfl⟩)
  have HBW := Lib.hid (show ∀ X, Below W0.heap.size W0 X → Below w.heap.size w X from fun X hX => below_next HST0.out.below hX)
  by_cases hc0 : cc = 0
  · have hcz : cRt a b = 0 := by rw [← hcc, hc0]
    subst hc0
    have HFR := Lib.hid (fun W => rFrom_any Sa Sb a b W hSa hSb hcz)
    have HSZ := Lib.hid (fun h2 => shR_size (lo := lo) (hi := hi) (op := op) hcz h2)
    have HRG := Lib.hid (fun h2 => shR_rg (lo := lo) (hi := hi) (op := op) hcz h2)
    have hz := ratX_sz (E := 2000) hcz (Nat.le_refl _)
    obtain ⟨rv, hrv⟩ : ∃ rv, rv = shR lo hi op a b := ⟨_, rfl⟩
    rw [← hrv] at HSZ HRG ⊢
    obtain ⟨q, hq⟩ : ∃ q, q = ratX a b := ⟨_, rfl⟩
    rw [← hq] at HFR HRG hz
    by_cases hsz : 6 < (unsg a).length ∨ 6 < b.length
    · have HR := Lib.hid (HSZ.out hsz)
      rw [← hzu, ← hzb] at hsz
      clear hcc hcz hrv hq HSZ HRG HFR hz hSU hU hSa hSb hzu hzb
      go_enter Tryz.func39, Tryz.ntmps39
      go_wp2_with fail
      rw [← hW0]
      clear hW0
      obtain ⟨_, f0, f1⟩ := HKS.out W0 (Below.refl _ W0)
      go_wp2_with fail
      (with_reducible refine (HCK.out _).mono ?_)
      rintro e w1 ⟨rfl, hb1⟩
      have HB1 := Lib.hid hb1
      clear f0 f1
      obtain ⟨_, f0, f1⟩ := HKS.out w1 hb1
      go_wp2_with fail
      (with_reducible refine (HU.out _).mono ?_)
      rintro e w2 ⟨rfl, rfl⟩
      by_cases h1 : 6 < SU.size
      · have t1 : decide ((6 : Int) < (SU.size : Int)) = true := decide_eq_true (by omega)
        have t2 : decide (6 < SU.size) = true := decide_eq_true h1
        go_wp2
        go_ret
        exact ⟨by rw [HR.out]; rfl, HBW.out _ HB1.out⟩
      · have t1 : decide ((6 : Int) < (SU.size : Int)) = false := decide_eq_false (by omega)
        have t2 : decide (6 < SU.size) = false := decide_eq_false h1
        have t3 : decide ((6 : Int) < (Sb.size : Int)) = true := decide_eq_true (by omega)
        have t4 : decide (6 < Sb.size) = true := decide_eq_true (by omega)
        go_wp2
        go_ret
        exact ⟨by rw [HR.out]; rfl, HBW.out _ HB1.out⟩
    · have hR := HRG.out hsz
      have t1 : decide ((6 : Int) < (SU.size : Int)) = false := decide_eq_false (by omega)
      have t2 : decide (6 < SU.size) = false := decide_eq_false (by omega)
      have t3 : decide ((6 : Int) < (Sb.size : Int)) = false := decide_eq_false (by omega)
      have t4 : decide (6 < Sb.size) = false := decide_eq_false (by omega)
      have HWL := Lib.hid (fun W => rWhole_any lo W (by omega) (by omega))
      have HWH := Lib.hid (fun W => rWhole_any hi W (by omega) (by omega))
      have zint : ∀ z : Int, -10 ≤ z → z ≤ 10 → Sz 2000 (z : Rat) := fun z h1 h2 => sz_mono (sz_int (n := 5) (by omega) (by rw [T4_5]; omega)) (by omega)
      have zlo := zint lo hlo hlo2
      have zhi := zint hi hhi hhi2
      have HOL := Lib.hid (fun W u v hu hv => rOrder_any 2000 u v q (lo : Rat) W (by omega) hu hv hz zlo)
      have HOH := Lib.hid (fun W u v hu hv => rOrder_any 2000 u v (hi : Rat) q W (by omega) hu hv zhi hz)
      obtain ⟨oa, hoa⟩ : ∃ o, o = ordQ q (lo : Rat) := ⟨_, rfl⟩
      obtain ⟨oh, hoh⟩ : ∃ o, o = ordQ (hi : Rat) q := ⟨_, rfl⟩
      rw [← hoa] at HOL
      rw [← hoh] at HOH
      rw [← hoa, ← hoh] at hR
      have HR := Lib.hid hR
      clear hR hcc hcz hrv hq HSZ HRG hz hSU hU hSa hSb hzu hzb hoa hoh zint zlo zhi hsz
      go_enter Tryz.func39, Tryz.ntmps39
      go_wp2_with fail
      rw [← hW0]
      clear hW0
      obtain ⟨_, f0, f1⟩ := HKS.out W0 (Below.refl _ W0)
      go_wp2_with fail
      (with_reducible refine (HCK.out _).mono ?_)
      rintro e w1 ⟨rfl, hb1⟩
      have HB1 := Lib.hid hb1
      clear f0 f1
      obtain ⟨_, f0, f1⟩ := HKS.out w1 hb1
      clear hb1
      go_wp2_with fail
      (with_reducible refine (HU.out _).mono ?_)
      rintro e w2 ⟨rfl, rfl⟩
      go_wp2_with fail
      (with_reducible refine (HFR.out _).mono ?_)
      rintro e w3 ⟨v3, rfl, hv3, hb3⟩
      have HB3 := Lib.hid (below_next HB1.out hb3)
      have HF3 := Lib.hid hv3
      obtain ⟨A5, c5, l5, A6, c6, l6, rfl, _, _⟩ := hv3
      clear f0 f1 hb3
      obtain ⟨W4, hW4⟩ : ∃ W4, W4 = w3.alloc (.cells #[.bool (frS q), .slice A5 l5.length c5, .slice A6 l6.length c6] 35) := ⟨_, rfl⟩
      have hb34 : Below w3.heap.size w3 W4 := by rw [hW4]; exact (Below.refl _ w3).alloc (Nat.le_refl _) _
      have HB4 := Lib.hid (below_next HB3.out hb34)
      have HFQ := Lib.hid (fun W (h : Below W4.heap.size W4 W) => (HF3.out.on hb34).on h)
      have hbx : W4.heap[w3.heap.size]? = some (.cells #[.bool (frS q), .slice A5 l5.length c5, .slice A6 l6.length c6] 35 (0, 0)) := by rw [hW4]; exact alloc_at _ _ _ rfl
      have HBX := Lib.hid hbx
      have HK4 := Lib.hid (show ∀ X, Below W4.heap.size W4 X → (fun X => Below W4.heap.size W4 X ∧ X.cell? ⟨w3.heap.size, 0, none⟩ = some (.bool (frS q)) ∧ X.cell? ⟨w3.heap.size, 1, none⟩ = some (.slice A5 l5.length c5) ∧ X.cell? ⟨w3.heap.size, 2, none⟩ = some (.slice A6 l6.length c6)) X from fun X hX => by
        have e := (hX.block _ (heap_lt HBX.out)).trans HBX.out
        exact ⟨hX, by rw [cellsAt e]; rfl, by rw [cellsAt e]; rfl, by rw [cellsAt e]; rfl⟩)
      clear hbx hb34
      go_upto_region 7 with fail
      rw [← hW4]
      clear hW4
      obtain ⟨_, f0, f1, f2⟩ := HK4.out W4 (Below.refl _ W4)
      go_region_held3 (fun X => Below W4.heap.size W4 X ∧ X.cell? ⟨w3.heap.size, 0, none⟩ = some (.bool (frS q)) ∧ X.cell? ⟨w3.heap.size, 1, none⟩ = some (.slice A5 l5.length c5) ∧ X.cell? ⟨w3.heap.size, 2, none⟩ = some (.slice A6 l6.length c6))
        (first
          | exact HK4.out _ (Below.refl _ W4).drew
          | (go_split_ands; refine HK4.out _ (below_next ?_ hb5); assumption)
          | (go_split_ands; refine HK4.out _ (below_next ?_ hb6); assumption))
        (first
          | (go_at_call 18; (with_reducible refine (HWL.out _).mono ?_); rintro e w5 ⟨v5, rfl, hv5, hb5⟩)
          | (go_at_call 67; (with_reducible refine (HOL.out _ _ v5 ?_ hv5).mono ?_); (exact HFQ.out _ (by go_split_ands; assumption)); rintro e w6 ⟨rfl, hb6⟩))
      have HB6 := Lib.hid (show Below W4.heap.size W4 w6 by go_split_ands; assumption)
      obtain ⟨zA, hzA⟩ : ∃ z, z = decide (oa < 0) := ⟨_, rfl⟩
      obtain ⟨yA, hyA⟩ : ∃ z, z = decide (oa = 0) := ⟨_, rfl⟩
      have hR := HR.out
      rw [← hzA, ← hyA] at hR
      have tA := hzA.symm
      have uA : (oa == 0) = yA := by rw [hyA, Bool.eq_iff_iff]; simp
      clear hb5 hb6 hv5 hzA hyA f0 f1 f2 HR
      by_cases hh : 0 ≤ hi
      · have th : decide (0 ≤ hi) = true := decide_eq_true hh
        rw [if_pos hh] at hR
        obtain ⟨zB, hzB⟩ : ∃ z, z = decide (oh < 0) := ⟨_, rfl⟩
        obtain ⟨yB, hyB⟩ : ∃ z, z = decide (oh = 0) := ⟨_, rfl⟩
        rw [← hzB, ← hyB] at hR
        have tB := hzB.symm
        have uB : (oh == 0) = yB := by rw [hyB, Bool.eq_iff_iff]; simp
        have HR := Lib.hid hR
        clear hzB hyB hR
        have HK6 := Lib.hid (show ∀ X, Below w6.heap.size w6 X → (fun X => Below w6.heap.size w6 X ∧ X.cell? ⟨w3.heap.size, 0, none⟩ = some (.bool (frS q)) ∧ X.cell? ⟨w3.heap.size, 1, none⟩ = some (.slice A5 l5.length c5) ∧ X.cell? ⟨w3.heap.size, 2, none⟩ = some (.slice A6 l6.length c6)) X from fun X hX => ⟨hX, (HK4.out X (below_next HB6.out hX)).2⟩)
        obtain ⟨_, f0, f1, f2⟩ := HK6.out w6 (Below.refl _ w6)
        go_upto_region 9 with fail
        go_region_held3 (fun X => Below w6.heap.size w6 X ∧ X.cell? ⟨w3.heap.size, 0, none⟩ = some (.bool (frS q)) ∧ X.cell? ⟨w3.heap.size, 1, none⟩ = some (.slice A5 l5.length c5) ∧ X.cell? ⟨w3.heap.size, 2, none⟩ = some (.slice A6 l6.length c6))
          (first
            | exact HK6.out _ (Below.refl _ w6).drew
            | (go_split_ands; refine HK6.out _ (below_next ?_ hb7); assumption)
            | (go_split_ands; refine HK6.out _ (below_next ?_ hb8); assumption))
          (first
            | (go_at_call 18; (with_reducible refine (HWH.out _).mono ?_); rintro e w7 ⟨v7, rfl, hv7, hb7⟩)
            | (go_at_call 67; (with_reducible refine (HOH.out _ v7 _ hv7 ?_).mono ?_); (exact HFQ.out _ (below_next HB6.out (by go_split_ands; assumption))); rintro e w8 ⟨rfl, hb8⟩))
        have HBF := Lib.hid (HBW.out _ (below_next HB4.out (below_next HB6.out (show Below w6.heap.size w6 w8 by go_split_ands; assumption))))
        clear hb7 hb8 hv7 f0 f1 f2
        cases zA <;> cases zB <;> cases op <;> cases yA <;> cases yB
        all_goals go_wp2
        all_goals go_ret
        all_goals exact ⟨by rw [HR.out]; rfl, HBF.out⟩
      · have th : decide (0 ≤ hi) = false := decide_eq_false hh
        rw [if_neg hh] at hR
        have HR := Lib.hid hR
        have HBF := Lib.hid (HBW.out _ (below_next HB4.out HB6.out))
        clear hR
        cases zA <;> cases op <;> cases yA
        all_goals go_wp2
        all_goals go_ret
        all_goals exact ⟨by rw [HR.out]; rfl, HBF.out⟩
  · have HR := Lib.hid (show shR lo hi op a b = cc by rw [hcc]; exact shR_bad (by rw [← hcc]; exact hc0))
    have t1 : (cc != 0) = true := by rw [bne_iff_ne]; exact hc0
    rw [HR.out]
    clear hcc hSU hU hSa hSb hzu hzb hc0
    go_enter Tryz.func39, Tryz.ntmps39
    go_wp2_with fail
    rw [← hW0]
    clear hW0
    obtain ⟨_, f0, f1⟩ := HKS.out W0 (Below.refl _ W0)
    go_wp2_with fail
    (with_reducible refine (HCK.out _).mono ?_)
    rintro e w1 ⟨rfl, hb1⟩
    go_wp2
    go_ret
    exact ⟨rfl, HBW.out _ hb1⟩
end Go.Proofs.YtpmnhdgajkickaaGreatDoor
