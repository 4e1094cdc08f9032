import Derived.Test.YtlkjgjojahjapaaGreatDoorR10Chk
import Derived.Test.YtlkjgjojahjapaaGreatDoorG27
import Derived.Test.YtlkjgjojahjapaaGreatDoorG15
import Derived.Test.YtlkjgjojahjapaaGreatDoorG24
import Derived.Test.YtlkjgjojahjapaaGreatDoorG12
import Derived.Maps.AppendAt
import Derived.Test.YtlkjgjojahjapaaGreatDoorG10
import Derived.Test.YtlkjgjojahjapaaGreatDoorG17
import Derived.IntWalk
/- Package dynamometerref10: short ratios (shortFault), FromRatio of a ratio that is one. -/
namespace Go.Proofs.YtlkjgjojahjapaaGreatDoor
open Go Go.RowKit Go.Proofs

theorem rFrom_any (Sa Sb : ByteArray) (a b : List UInt8) (w : World) (hSa : Sa.data.toList = a) (hSb : Sb.data.toList = b) (h : cRt a b = 0) :
    Calls Tryz.prog 10 #[.agg #[.string Sa, .string Sb]] w (FracPost (ratX a b) w) := by
  obtain ⟨h1, h2, h3, h4, h5, h6, h7⟩ := cRt_zero h
  have hdu := (dgB_digits h1).2.1
  have hdb := (dgB_digits h2).2.1
  have hpu : 0 < (unsg a).length := List.length_pos_iff.2 (dgB_digits h1).1
  have hy := dgV_pos h2 h3
  unfold ratX
  cases hs : sgB a with
  | false =>
    have e := unsg_pos hs
    have := rFromRat_s Sa Sb (unsg a) b w (by rw [e]; exact hSa) hSb (by omega) (by omega) hpu hdu hdb hy
    exact this
  | true =>
    have := rFromRatN_s Sa Sb (unsg a) b w (by rw [← unsg_neg hs]; exact hSa) hSb (by omega) (by omega) hpu hdu hdb hy
    exact this
/-- sizes of a ratio that is one -/
theorem ratX_sz {a b : List UInt8} {E : Nat} (h : cRt a b = 0) (hE : 2000 ≤ E) : Sz E (ratX a b) := by
  obtain ⟨h1, h2, h3, h4, h5, h6, h7⟩ := cRt_zero h
  obtain ⟨p1, p2, p3, p4⟩ := ratX_good h
  have hdu := dgV_lt (dgB_digits h1).2.1
  have hdb := dgV_lt (dgB_digits h2).2.1
  have key : ∀ n E, n ≤ E → (10 : Nat) ^ n ≤ T4 ^ E := fun n E hn => Nat.le_trans (Nat.pow_le_pow_right (by omega) hn) (Nat.pow_le_pow_left (by unfold T4; omega) _)
  refine ⟨?_, ?_⟩
  · rw [p2]; exact Nat.lt_of_lt_of_le hdu (key _ _ (by omega))
  · rw [p3]; exact Nat.lt_of_lt_of_le hdb (key _ _ (by omega))
/-- the code of a short ratio, with the ends as numbers -/
def shR (lo hi : Int) (op : Bool) (a b : List UInt8) : Int := if cRt a b ≠ 0 then cRt a b else if 6 < (unsg a).length ∨ 6 < b.length then 3 else if outB lo hi op (ratX a b) = true then 9 else 0
theorem shR_eq (k : Rg) (a b : List UInt8) : shR (rgLo k) (rgHi k) (rgOp k) a b = shC k a b := by
  unfold shR shC
  split
  · rfl
  · split
    · rfl
    · rw [outB_in]
      cases inQ k (ratX a b) <;> rfl
theorem shR_bad {lo hi : Int} {op : Bool} {a b : List UInt8} (h : cRt a b ≠ 0) : shR lo hi op a b = cRt a b := by unfold shR; rw [if_pos h]
theorem shR_size {lo hi : Int} {op : Bool} {a b : List UInt8} (h : cRt a b = 0) (h2 : 6 < (unsg a).length ∨ 6 < b.length) : shR lo hi op a b = 3 := by unfold shR; rw [if_neg (by omega), if_pos h2]
theorem shR_rg {lo hi : Int} {op : Bool} {a b : List UInt8} (h : cRt a b = 0) (h2 : ¬ (6 < (unsg a).length ∨ 6 < b.length)) : shR lo hi op a b = if (decide (ordQ (ratX a b) (lo : Rat) < 0) || decide ((if 0 ≤ hi then ordQ (hi : Rat) (ratX a b) else 1) < 0) || (op && (decide (ordQ (ratX a b) (lo : Rat) = 0) || decide ((if 0 ≤ hi then ordQ (hi : Rat) (ratX a b) else 1) = 0)))) = true then 9 else 0 := by
  unfold shR; rw [if_neg (by omega), if_neg h2]; rfl
set_option maxHeartbeats 4000000 in
set_option maxRecDepth 100000 in
theorem rShortR_any (Sa Sb : ByteArray) (a b : List UInt8) (lo hi : Int) (op : Bool) (w : World) (hSa : Sa.data.toList = a) (hSb : Sb.data.toList = b) (ha : Sa.size ≤ 9223372036854775800) (hb : Sb.size ≤ 9223372036854775800) (hlo : -10 ≤ lo) (hlo2 : lo ≤ 10) (hhi : -10 ≤ hi) (hhi2 : hi ≤ 10) :
    Calls Tryz.prog 83 #[.agg #[.string Sa, .string Sb], .int .i64 lo, .int .i64 hi, .bool op] w fun e w' => e = .returned (.int .i64 (shR lo hi op a b)) ∧ Below w.heap.size w w' := by
  have HU := Lib.hid (fun W => rUnsigned_any Sa a W hSa (by omega))
  obtain ⟨SU, hSU⟩ : ∃ SU : ByteArray, SU = ⟨(unsg a).toArray⟩ := ⟨_, rfl⟩
  rw [← hSU] at HU
  have hU : SU.data.toList = unsg a := by rw [hSU]
  have hzb := ba_size hSb
  have hzu := ba_size hU
  have HCK := Lib.hid (fun W => rChk_any Sa Sb a b W hSa hSb ha hb)
  obtain ⟨cc, hcc⟩ : ∃ cc, cc = cRt a b := ⟨_, rfl⟩
  rw [← hcc] at HCK
  obtain ⟨W0, hW0⟩ : ∃ W0, W0 = w.alloc (.cells #[.string Sa, .string Sb] 23) := ⟨_, rfl⟩
  have HST0 := Lib.hid (show St w W0 [(w.heap.size, .cells #[.string Sa, .string Sb] 23 (0, 0))] by rw [hW0]; exact (St.start w).alloc _ _ rfl)
  have HKS := Lib.hid (show ∀ X, Below W0.heap.size W0 X → (fun X => Below W0.heap.size W0 X ∧ X.cell? ⟨w.heap.size, 0, none⟩ = some (.string Sa) ∧ X.cell? ⟨w.heap.size, 1, none⟩ = some (.string Sb)) X from fun X hX => ⟨hX, (HST0.out.call hX).cell 0 0 rfl rfl, (HST0.out.call hX).cell 0 1 rfl rfl⟩)
  have HBW := Lib.hid (show ∀ X, Below W0.heap.size W0 X → Below w.heap.size w X from fun X hX => below_next HST0.out.below hX)
  by_cases hc0 : cc = 0
  · have hcz : cRt a b = 0 := by rw [← hcc, hc0]
    subst hc0
    have HFR := Lib.hid (fun W => rFrom_any Sa Sb a b W hSa hSb hcz)
    have HSZ := Lib.hid (fun h2 => shR_size (lo := lo) (hi := hi) (op := op) hcz h2)
    have HRG := Lib.hid (fun h2 => shR_rg (lo := lo) (hi := hi) (op := op) hcz h2)
    have hz := ratX_sz (E := 2000) hcz (Nat.le_refl _)
    obtain ⟨rv, hrv⟩ : ∃ rv, rv = shR lo hi op a b := ⟨_, rfl⟩
    rw [← hrv] at HSZ HRG ⊢
    obtain ⟨q, hq⟩ : ∃ q, q = ratX a b := ⟨_, rfl⟩
    rw [← hq] at HFR HRG hz
    by_cases hsz : 6 < (unsg a).length ∨ 6 < b.length
    · have HR := Lib.hid (HSZ.out hsz)
      rw [← hzu, ← hzb] at hsz
      clear hcc hcz hrv hq HSZ HRG HFR hz hSU hU hSa hSb hzu hzb
      go_enter Tryz.func83, Tryz.ntmps83
      go_wp2_with fail
      rw [← hW0]
      clear hW0
      obtain ⟨_, f0, f1⟩ := HKS.out W0 (Below.refl _ W0)
      go_wp2_with fail
      (with_reducible refine (HCK.out _).mono ?_)
      rintro e w1 ⟨rfl, hb1⟩
      have HB1 := Lib.hid hb1
      clear f0 f1
      obtain ⟨_, f0, f1⟩ := HKS.out w1 hb1
      go_wp2_with fail
      (with_reducible refine (HU.out _).mono ?_)
      rintro e w2 ⟨rfl, rfl⟩
      by_cases h1 : 6 < SU.size
      · have t1 : decide ((6 : Int) < (SU.size : Int)) = true := decide_eq_true (by omega)
        have t2 : decide (6 < SU.size) = true := decide_eq_true h1
        go_wp2
        go_ret
        exact ⟨by rw [HR.out]; rfl, HBW.out _ HB1.out⟩
      · have t1 : decide ((6 : Int) < (SU.size : Int)) = false := decide_eq_false (by omega)
        have t2 : decide (6 < SU.size) = false := decide_eq_false h1
        have t3 : decide ((6 : Int) < (Sb.size : Int)) = true := decide_eq_true (by omega)
        have t4 : decide (6 < Sb.size) = true := decide_eq_true (by omega)
        go_wp2
        go_ret
        exact ⟨by rw [HR.out]; rfl, HBW.out _ HB1.out⟩
    · have hR := HRG.out hsz
      have t1 : decide ((6 : Int) < (SU.size : Int)) = false := decide_eq_false (by omega)
      have t2 : decide (6 < SU.size) = false := decide_eq_false (by omega)
      have t3 : decide ((6 : Int) < (Sb.size : Int)) = false := decide_eq_false (by omega)
      have t4 : decide (6 < Sb.size) = false := decide_eq_false (by omega)
      have HWL := Lib.hid (fun W => rWhole_any lo W (by omega) (by omega))
      have HWH := Lib.hid (fun W => rWhole_any hi W (by omega) (by omega))
      have zint : ∀ z : Int, -10 ≤ z → z ≤ 10 → Sz 2000 (z : Rat) := fun z h1 h2 => sz_mono (sz_int (n := 5) (by omega) (by rw [T4_5]; omega)) (by omega)
      have zlo := zint lo hlo hlo2
      have zhi := zint hi hhi hhi2
      have HOL := Lib.hid (fun W u v hu hv => rOrder_any 2000 u v q (lo : Rat) W (by omega) hu hv hz zlo)
      have HOH := Lib.hid (fun W u v hu hv => rOrder_any 2000 u v (hi : Rat) q W (by omega) hu hv zhi hz)
      obtain ⟨oa, hoa⟩ : ∃ o, o = ordQ q (lo : Rat) := ⟨_, rfl⟩
      obtain ⟨oh, hoh⟩ : ∃ o, o = ordQ (hi : Rat) q := ⟨_, rfl⟩
      rw [← hoa] at HOL
      rw [← hoh] at HOH
      rw [← hoa, ← hoh] at hR
      have HR := Lib.hid hR
      clear hR hcc hcz hrv hq HSZ HRG hz hSU hU hSa hSb hzu hzb hoa hoh zint zlo zhi hsz
      go_enter Tryz.func83, Tryz.ntmps83
      go_wp2_with fail
      rw [← hW0]
      clear hW0
      obtain ⟨_, f0, f1⟩ := HKS.out W0 (Below.refl _ W0)
      go_wp2_with fail
      (with_reducible refine (HCK.out _).mono ?_)
      rintro e w1 ⟨rfl, hb1⟩
      have HB1 := Lib.hid hb1
      clear f0 f1
      obtain ⟨_, f0, f1⟩ := HKS.out w1 hb1
      clear hb1
      go_wp2_with fail
      (with_reducible refine (HU.out _).mono ?_)
      rintro e w2 ⟨rfl, rfl⟩
      go_wp2_with fail
      (with_reducible refine (HFR.out _).mono ?_)
      rintro e w3 ⟨v3, rfl, hv3, hb3⟩
      have HB3 := Lib.hid (below_next HB1.out hb3)
      have HF3 := Lib.hid hv3
      obtain ⟨A5, c5, l5, A6, c6, l6, rfl, _, _⟩ := hv3
      clear f0 f1 hb3
      obtain ⟨W4, hW4⟩ : ∃ W4, W4 = w3.alloc (.cells #[.bool (frS q), .slice A5 l5.length c5, .slice A6 l6.length c6] 33) := ⟨_, rfl⟩
      have hb34 : Below w3.heap.size w3 W4 := by rw [hW4]; exact (Below.refl _ w3).alloc (Nat.le_refl _) _
      have HB4 := Lib.hid (below_next HB3.out hb34)
      have HFQ := Lib.hid (fun W (h : Below W4.heap.size W4 W) => (HF3.out.on hb34).on h)
      have hbx : W4.heap[w3.heap.size]? = some (.cells #[.bool (frS q), .slice A5 l5.length c5, .slice A6 l6.length c6] 33 (0, 0)) := by rw [hW4]; exact alloc_at _ _ _ rfl
      have HBX := Lib.hid hbx
      have HK4 := Lib.hid (show ∀ X, Below W4.heap.size W4 X → (fun X => Below W4.heap.size W4 X ∧ X.cell? ⟨w3.heap.size, 0, none⟩ = some (.bool (frS q)) ∧ X.cell? ⟨w3.heap.size, 1, none⟩ = some (.slice A5 l5.length c5) ∧ X.cell? ⟨w3.heap.size, 2, none⟩ = some (.slice A6 l6.length c6)) X from fun X hX => by
        have e := (hX.block _ (heap_lt HBX.out)).trans HBX.out
        exact ⟨hX, by rw [cellsAt e]; rfl, by rw [cellsAt e]; rfl, by rw [cellsAt e]; rfl⟩)
      clear hbx hb34
      go_upto_region 7 with fail
      rw [← hW4]
      clear hW4
      obtain ⟨_, f0, f1, f2⟩ := HK4.out W4 (Below.refl _ W4)
      go_region_held3 (fun X => Below W4.heap.size W4 X ∧ X.cell? ⟨w3.heap.size, 0, none⟩ = some (.bool (frS q)) ∧ X.cell? ⟨w3.heap.size, 1, none⟩ = some (.slice A5 l5.length c5) ∧ X.cell? ⟨w3.heap.size, 2, none⟩ = some (.slice A6 l6.length c6))
        (first
          | exact HK4.out _ (Below.refl _ W4).drew
          | (go_split_ands; refine HK4.out _ (below_next ?_ hb5); assumption)
          | (go_split_ands; refine HK4.out _ (below_next ?_ hb6); assumption))
        (first
          | (go_at_call 50; (with_reducible refine (HWL.out _).mono ?_); rintro e w5 ⟨v5, rfl, hv5, hb5⟩)
          | (go_at_call 9; (with_reducible refine (HOL.out _ _ v5 ?_ hv5).mono ?_); (exact HFQ.out _ (by go_split_ands; assumption)); rintro e w6 ⟨rfl, hb6⟩))
      have HB6 := Lib.hid (show Below W4.heap.size W4 w6 by go_split_ands; assumption)
      obtain ⟨zA, hzA⟩ : ∃ z, z = decide (oa < 0) := ⟨_, rfl⟩
      obtain ⟨yA, hyA⟩ : ∃ z, z = decide (oa = 0) := ⟨_, rfl⟩
      have hR := HR.out
      rw [← hzA, ← hyA] at hR
      have tA := hzA.symm
      have uA : (oa == 0) = yA := by rw [hyA, Bool.eq_iff_iff]; simp
      clear hb5 hb6 hv5 hzA hyA f0 f1 f2 HR
      by_cases hh : 0 ≤ hi
      · have th : decide (0 ≤ hi) = true := decide_eq_true hh
        rw [if_pos hh] at hR
        obtain ⟨zB, hzB⟩ : ∃ z, z = decide (oh < 0) := ⟨_, rfl⟩
        obtain ⟨yB, hyB⟩ : ∃ z, z = decide (oh = 0) := ⟨_, rfl⟩
        rw [← hzB, ← hyB] at hR
        have tB := hzB.symm
        have uB : (oh == 0) = yB := by rw [hyB, Bool.eq_iff_iff]; simp
        have HR := Lib.hid hR
        clear hzB hyB hR
        have HK6 := Lib.hid (show ∀ X, Below w6.heap.size w6 X → (fun X => Below w6.heap.size w6 X ∧ X.cell? ⟨w3.heap.size, 0, none⟩ = some (.bool (frS q)) ∧ X.cell? ⟨w3.heap.size, 1, none⟩ = some (.slice A5 l5.length c5) ∧ X.cell? ⟨w3.heap.size, 2, none⟩ = some (.slice A6 l6.length c6)) X from fun X hX => ⟨hX, (HK4.out X (below_next HB6.out hX)).2⟩)
        obtain ⟨_, f0, f1, f2⟩ := HK6.out w6 (Below.refl _ w6)
        go_upto_region 9 with fail
        go_region_held3 (fun X => Below w6.heap.size w6 X ∧ X.cell? ⟨w3.heap.size, 0, none⟩ = some (.bool (frS q)) ∧ X.cell? ⟨w3.heap.size, 1, none⟩ = some (.slice A5 l5.length c5) ∧ X.cell? ⟨w3.heap.size, 2, none⟩ = some (.slice A6 l6.length c6))
          (first
            | exact HK6.out _ (Below.refl _ w6).drew
            | (go_split_ands; refine HK6.out _ (below_next ?_ hb7); assumption)
            | (go_split_ands; refine HK6.out _ (below_next ?_ hb8); assumption))
          (first
            | (go_at_call 50; (with_reducible refine (HWH.out _).mono ?_); rintro e w7 ⟨v7, rfl, hv7, hb7⟩)
            | (go_at_call 9; (with_reducible refine (HOH.out _ v7 _ hv7 ?_).mono ?_); (exact HFQ.out _ (below_next HB6.out (by go_split_ands; assumption))); rintro e w8 ⟨rfl, hb8⟩))
        have HBF := Lib.hid (HBW.out _ (below_next HB4.out (below_next HB6.out (show Below w6.heap.size w6 w8 by go_split_ands; assumption))))
        clear hb7 hb8 hv7 f0 f1 f2
        cases zA <;> cases zB <;> cases op <;> cases yA <;> cases yB
        all_goals go_wp2
        all_goals go_ret
        all_goals exact ⟨by rw [HR.out]; rfl, HBF.out⟩
      · have th : decide (0 ≤ hi) = false := decide_eq_false hh
        rw [if_neg hh] at hR
        have HR := Lib.hid hR
        have HBF := Lib.hid (HBW.out _ (below_next HB4.out HB6.out))
        clear hR
        cases zA <;> cases op <;> cases yA
        all_goals go_wp2
        all_goals go_ret
        all_goals exact ⟨by rw [HR.out]; rfl, HBF.out⟩
  · have HR := Lib.hid (show shR lo hi op a b = cc by rw [hcc]; exact shR_bad (by rw [← hcc]; exact hc0))
    have t1 : (cc != 0) = true := by rw [bne_iff_ne]; exact hc0
    rw [HR.out]
    clear hcc hSU hU hSa hSb hzu hzb hc0
    go_enter Tryz.func83, Tryz.ntmps83
    go_wp2_with fail
    rw [← hW0]
    clear hW0
    obtain ⟨_, f0, f1⟩ := HKS.out W0 (Below.refl _ W0)
    go_wp2_with fail
    (with_reducible refine (HCK.out _).mono ?_)
    rintro e w1 ⟨rfl, hb1⟩
    go_wp2
    go_ret
    exact ⟨rfl, HBW.out _ hb1⟩
end Go.Proofs.YtlkjgjojahjapaaGreatDoor

/- Package dynamometerref10: chances. -/
namespace Go.Proofs.YtlkjgjojahjapaaGreatDoor
open Go Go.RowKit Go.Proofs

end Go.Proofs.YtlkjgjojahjapaaGreatDoor

/- Package dynamometerref0: Pow. -/
namespace Go.Proofs.YtlkjgjojahjapaaGreatDoor
open Go Go.RowKit Go.Proofs

/-- what the loop keeps: powers of x, whose exponents still make n -/
def RPowInv (w wr : World) (x n k : Nat) (va vo : Value) : Prop :=
  ∃ (A1 A2 : Option Addr) (c1 c2 : Nat) (l1 l2 : List Nat) (m e : Nat), va = .slice A1 l1.length c1 ∧ vo = .slice A2 l2.length c2 ∧ RNatR wr A1 c1 l1 (x ^ e) ∧ RNatR wr A2 c2 l2 (x ^ m) ∧ m + e * k = n ∧ Below w.heap.size w wr

set_option maxHeartbeats 2000000 in
set_option maxRecDepth 100000 in
theorem rnatPow_any (A : Option Addr) (c : Nat) (l : List Nat) (x n K : Nat) (w : World) (h : RNatR w A c l x) (hx : x < T4 ^ K) (hK : K * n ≤ 800000) (hn : n ≤ 1000000) :
    Calls Tryz.prog 87 #[.slice A l.length c, .int .i64 n] w (RNatPost (x ^ n) w) := by
  have HN := Lib.hid h
  have HO := Lib.hid (fun W => rnatOf_any 1 W (by omega))
  have HX := Lib.hid hx
  clear h hx
  go_enter Tryz.func87, Tryz.ntmps87
  go_wp2_with fail
  refine (HO.out _).mono ?_
  rintro e1 w1 ⟨A1, c1, l1, rfl, hn1, hb1⟩
  have HN1 := Lib.hid hn1
  have HB1 := Lib.hid hb1
  clear hn1 hb1
  go_wp2_with fail
  go_loopw [0, 1, 5, 7] (fun a i o _ wr => ∃ k : Nat, i = .int .i64 k ∧ k ≤ n ∧ RPowInv w wr x n k a o) (fun _ i _ _ _ => (intOf i).toNat)
  case atStart => exact ⟨n, rfl, Nat.le_refl _, A, A1, c, c1, l, l1, 0, 1, rfl, rfl, by rw [Nat.pow_one]; exact HN.out.on HB1.out, by rw [Nat.pow_zero]; exact HN1.out, by omega, HB1.out⟩
  case round =>
    obtain ⟨k, rfl, hk, A3, A4, c3, c4, l3, l4, m, e, rfl, rfl, h3, h4, hme, hb⟩ := hrel
    by_cases hp : 0 < k
    · have hek : e ≤ e * k := Nat.le_mul_of_pos_right e hp
      have hl3 : l3.length ≤ K * n + 1 := pow_len4 HX.out (show e ≤ n by omega) h3.norm h3.val
      have hl4 : l4.length ≤ K * n + 1 := pow_len4 HX.out (show m ≤ n by omega) h4.norm h4.val
      have t1 : decide ((0 : Int) < ↑k) = true := by simp; omega
      have t2 : decide (0 < k) = true := by simpa using hp
      have HB := Lib.hid hb
      have H3 := Lib.hid h3
      have H4 := Lib.hid h4
      clear hb h3 h4 hek
      by_cases ho : k % 2 = 1
      · have t3 : (((k : Int) % 2) == 1) = true := by simp; omega
        have t4 : ((k % 2) == 1) = true := by simpa using ho
        have HM := Lib.hid (rnatMul_any A4 A3 c4 c3 l4 l3 _ _ wr H4.out H3.out (by omega) (by omega))
        have HS := Lib.hid (fun W (hW : Below wr.heap.size wr W) => rnatMul_any A3 A3 c3 c3 l3 l3 _ _ W (H3.out.on hW) (H3.out.on hW) (by omega) (by omega))
        have HE := Lib.hid (pow_odd_e hme ho)
        clear hme
        go_wp2_with fail
        refine HM.out.mono ?_
        rintro e2 w2 ⟨A5, c5, l5, rfl, h5, hb5⟩
        have H5 := Lib.hid h5
        have HB5 := Lib.hid hb5
        clear h5 hb5
        go_wp2_with fail
        refine (HS.out _ HB5.out).mono ?_
        rintro e3 w3 ⟨A6, c6, l6, rfl, h6, hb6⟩
        have H6 := Lib.hid h6
        have HB6 := Lib.hid hb6
        clear h6 hb6
        go_wp2
        go_roundw
        case rel => exact ⟨k / 2, by first | rfl | go_num, by omega, A6, A5, c6, c5, l6, l5, m + e, e + e, rfl, rfl, by rw [Nat.pow_add]; exact H6.out, by rw [Nat.pow_add]; exact H5.out.on HB6.out, HE.out, HB.out.trans ((HB5.out.trans (HB6.out.mono HB5.out.size)).mono HB.out.size)⟩
        case measure => simp [intOf]; omega
      · have t3 : (((k : Int) % 2) == 1) = false := by simp; omega
        have t4 : ((k % 2) == 1) = false := by simpa using ho
        have HS := Lib.hid (rnatMul_any A3 A3 c3 c3 l3 l3 _ _ wr H3.out H3.out (by omega) (by omega))
        have HE := Lib.hid (pow_even_e hme (show k % 2 = 0 by omega))
        clear hme
        go_wp2_with fail
        refine HS.out.mono ?_
        rintro e3 w3 ⟨A6, c6, l6, rfl, h6, hb6⟩
        have H6 := Lib.hid h6
        have HB6 := Lib.hid hb6
        clear h6 hb6
        go_wp2
        go_roundw
        case rel => exact ⟨k / 2, by first | rfl | go_num, by omega, A6, A4, c6, c4, l6, l4, m, e + e, rfl, rfl, by rw [Nat.pow_add]; exact H6.out, H4.out.on HB6.out, HE.out, HB.out.trans (HB6.out.mono HB.out.size)⟩
        case measure => simp [intOf]; omega
    · obtain rfl : k = 0 := by omega
      have HF := Lib.hid (show RNatPost (x ^ n) w (.returned (.slice A4 l4.length c4)) wr from ⟨A4, c4, l4, rfl, by rw [← hme, Nat.mul_zero, Nat.add_zero]; exact h4, hb⟩)
      clear h3 h4 hme hb
      go_wp2
      go_ret
      exact HF.out
end Go.Proofs.YtlkjgjojahjapaaGreatDoor

/- Binomial: three throws, at most one. Plain. -/
namespace Go.Proofs.YtlkjgjojahjapaaGreatDoor
open Go

theorem bin_half : binE 3 1 [49] [50] = 0 ∧ binV 3 1 [49] [50] = ([49], [50]) := by
  have e1 : ratX [49] [50] = mkRat 1 2 := by
    unfold ratX
    rfl
  have hs : binC 3 [49] [50] = 0 := by
    have h1 : cRt [49] [50] = 0 := by decide
    unfold binC shC
    rw [if_neg (by decide), e1, h1, if_neg (by decide), if_neg (by decide)]
    decide
  have e2 : binQ 3 1 (mkRat 1 2) = mkRat 1 2 := by decide
  have e3 : Lib.decDigits 1 = [49] := by rw [Lib.decDigits]; rfl
  have e4 : Lib.decDigits 2 = [50] := by rw [Lib.decDigits]; rfl
  have h1 : frS (mkRat 1 2) = false := by decide
  have h2 : frN (mkRat 1 2) = 1 := by decide
  have h3 : (mkRat 1 2).den = 2 := by decide
  have hr : ratQ (mkRat 1 2) = ([49], [50]) := by unfold ratQ; rw [h2, h3, e3, e4]
  have hf : fitQ (mkRat 1 2) = true := by unfold fitQ; rw [hr]; rfl
  unfold binE binV
  rw [if_pos hs, if_pos hs, e1, show (3 : Int).toNat = 3 from rfl, e2]
  unfold rtC rtT txtQ
  rw [if_pos hf, if_pos hf, h1, hr]
  exact ⟨rfl, rfl⟩
end Go.Proofs.YtlkjgjojahjapaaGreatDoor

/- Package dynamometerref10: Binomial. -/
namespace Go.Proofs.YtlkjgjojahjapaaGreatDoor
open Go Go.RowKit Go.Proofs

theorem binV_bad {n k : Int} {a b : List UInt8} (h : binC n a b ≠ 0) : binV n k a b = ([], []) ∧ binE n k a b = binC n a b := by
  unfold binV binE; rw [if_neg h, if_neg h]; exact ⟨rfl, rfl⟩
theorem binV_good {n k : Int} {a b : List UInt8} (h : binC n a b = 0) : binV n k a b = rtT (binQ n.toNat k (ratX a b)) ∧ binE n k a b = rtC (binQ n.toNat k (ratX a b)) := by
  unfold binV binE; rw [if_pos h, if_pos h]; exact ⟨rfl, rfl⟩
theorem rat_none : ratOf ([], []) = .agg #[.string ⟨#[]⟩, .string ⟨#[]⟩] := rfl
/-- a share's parts -/
theorem share_parts {a b : List UInt8} (h : shC .share a b = 0) : frN (ratX a b) ≤ (ratX a b).den ∧ (ratX a b).den ≤ T4 ^ 2 := by
  obtain ⟨h1, h2, h3, h4⟩ := shC_zero h
  obtain ⟨s1, s2, _⟩ := shC_small h
  simp only [inQ, Bool.and_eq_true, decide_eq_true_eq] at h4
  refine ⟨h4.2, ?_⟩
  have : T4 ^ 2 = 100000000 := by unfold T4; rfl
  omega
end Go.Proofs.YtlkjgjojahjapaaGreatDoor
