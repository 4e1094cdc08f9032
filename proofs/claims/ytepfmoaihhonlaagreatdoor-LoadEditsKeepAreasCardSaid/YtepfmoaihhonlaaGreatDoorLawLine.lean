/- LoadLineMatchesSpec: the law's walk. -/
import Derived.Test.YtepfmoaihhonlaaGreatDoorGPeak
import Derived.Test.YtepfmoaihhonlaaGreatDoorGRate
import Derived.Test.YtepfmoaihhonlaaGreatDoorInkTxt
import Derived.Test.YtepfmoaihhonlaaGreatDoorGArr
namespace Go.Proofs.YtepfmoaihhonlaaGreatDoor
open Go Go.RowKit Go.Proofs

theorem W9_10 : W64 ^ 9 ≤ 10 ^ 174 := by unfold W64; decide
theorem ratS_len {x y : Nat} (hx : x < W64 ^ 9) (hy : y < W64 ^ 9) : (ratS x y).1.length ≤ 577 ∧ (ratS x y).2.length ≤ 577 := by
  have h1 := dec_le (k := 174) (by omega) (Nat.lt_of_le_of_lt (Nat.div_le_self x (Nat.gcd x y)) (Nat.lt_of_lt_of_le hx W9_10))
  have h2 := dec_le (k := 174) (by omega) (Nat.lt_of_le_of_lt (Nat.div_le_self y (Nat.gcd x y)) (Nat.lt_of_lt_of_le hy W9_10))
  unfold ratS
  exact ⟨by show (Lib.decDigits _).length ≤ 577; omega, by show (Lib.decDigits _).length ≤ 577; omega⟩
theorem rateN_bd {l : List (Int × Int × Int)} (hok : OkL l) {t : Nat} (ht : (t : Int) ≤ lenS l) : (rateN l t).1 < W64 ^ 9 ∧ (rateN l t).2 < W64 ^ 9 := by
  have hsf := sumF_lenS hok.ok
  obtain ⟨s, hs1, hs2⟩ := stIx_in (stgs l) t (stgs_ne hok) (by omega)
  obtain ⟨i, hi⟩ : ∃ i, i = (stIx (stgs l) t).1 := ⟨_, rfl⟩
  obtain ⟨x, hx⟩ : ∃ x, x = (stIx (stgs l) t).2 := ⟨_, rfl⟩
  rw [← hi] at hs1
  rw [← hx] at hs2
  have hil : i < l.length := by have := (List.getElem?_eq_some_iff.1 hs1).1; simpa [stgs] using this
  obtain ⟨q, hs⟩ : ∃ q, l[i]? = some q := ⟨_, List.getElem?_eq_getElem hil⟩
  have hse : s = toStg q := by unfold stgs at hs1; rw [List.getElem?_map, hs] at hs1; simpa using hs1.symm
  subst hse
  have hS := hok.ok _ (List.mem_of_getElem? hs)
  obtain ⟨F, y, z⟩ := q
  unfold OkS at hS
  simp only at hS
  have hxF : x ≤ F.toNat := hs2
  unfold rateN
  rw [← hi, ← hx, hs]
  show (toStg (F, y, z)).rnum x < _ ∧ F.toNat < _
  have h1 : (toStg (F, y, z)).rnum x ≤ 1000000000 * 100000000000 + 1000000000 * 100000000000 := by
    have e1 : y.toNat * F.toNat ≤ 1000000000 * 100000000000 := Nat.mul_le_mul (by omega) (by omega)
    have e2 : (z.toNat - y.toNat) * x ≤ 1000000000 * 100000000000 := Nat.mul_le_mul (by omega) (by omega)
    unfold Stg.rnum toStg; simp only
    split <;> omega
  exact ⟨Nat.lt_of_le_of_lt h1 (by unfold W64; decide), Nat.lt_trans (show F.toNat < W64 by unfold W64; omega) W9b⟩
theorem rngC_zero {l : List (Int × Int × Int)} {t : Int} (h : rngC l t = 0) : OkL l ∧ 0 ≤ t ∧ t ≤ lenS l := by
  unfold rngC at h
  by_cases hc : codeS l = 0
  · rw [if_neg (by omega)] at h
    by_cases h0 : t < 0
    · rw [if_pos h0] at h; omega
    · rw [if_neg h0] at h
      by_cases h1 : lenS l < t
      · rw [if_pos h1] at h; omega
      · exact ⟨codeS_ok hc, by omega, by omega⟩
  · rw [if_pos hc] at h; exact absurd h hc
theorem rateP_len (l : List (Int × Int × Int)) (t : Int) : (rateP l t).1.length ≤ 577 ∧ (rateP l t).2.length ≤ 577 := by
  unfold rateP
  by_cases h : rngC l t = 0
  · rw [if_neg (by omega)]
    obtain ⟨hok, h0, h1⟩ := rngC_zero h
    have hb := rateN_bd hok (t := t.toNat) (by omega)
    exact ratS_len hb.1 hb.2
  · rw [if_pos h]; simp
theorem areaP_len (l : List (Int × Int × Int)) (t : Int) : (areaP l t).1.length ≤ 577 ∧ (areaP l t).2.length ≤ 577 := by
  unfold areaP
  by_cases h : rngC l t = 0
  · rw [if_neg (by omega)]
    obtain ⟨hok, h0, h1⟩ := rngC_zero h
    obtain ⟨_, h3, h4, h5⟩ := upto_small hok t.toNat
    exact ratS_len (Nat.lt_trans h5 W4_9) (Nat.lt_trans h4 W4_9)
  · rw [if_pos h]; simp
theorem codeS_rng (l : List (Int × Int × Int)) : 0 ≤ codeS l ∧ codeS l ≤ 100 := by
  unfold codeS
  split
  · omega
  · split
    · omega
    · split
      · split <;> omega
      · omega
theorem rngC_rng (l : List (Int × Int × Int)) (t : Int) : 0 ≤ rngC l t ∧ rngC l t ≤ 100 := by
  have := codeS_rng l
  unfold rngC
  split
  · exact this
  · split
    · omega
    · split <;> omega

set_option maxHeartbeats 4000000 in
set_option maxRecDepth 100000 in
theorem lawLine_any (A : Option Addr) (c : Nat) (l : List (Int × Int × Int)) (t : Int) (w : World) (ht : Tab w.heap.size w) (hr : Rd w 0 w.heap.size 3 A l.length (cells3 l)) (hl : l.length ≤ 9223372036854775807) (htl : t ≤ 9223372036854775807) :
    Calls Tryz.prog 3 #[.slice A l.length c, .int .i64 t] w fun e w' => e = .returned (.bool true) ∧ Below w.heap.size w w' := by
  have HT := fun W (hb : Below w.heap.size w W) => (ht.on hb).mono hb.size
  have HEV := Lib.hid (fun W => lawEven_any W)
  have HC1 := Lib.hid (loadCheck_any A c l w hr hl)
  have HC2 := Lib.hid (fun W (hb : Below w.heap.size w W) => r7Check_any A c l W (hr.old hb) hl)
  have HL1 := Lib.hid (fun W (hb : Below w.heap.size w W) => lLength_any A c l W (hr.old hb) hl)
  have HL2 := Lib.hid (fun W (hb : Below w.heap.size w W) => r7Length_any A c l W (hr.old hb) hl)
  have HP1 := Lib.hid (fun W (hb : Below w.heap.size w W) => lPeak_any A c l W (hr.old hb) hl)
  have HP2 := Lib.hid (fun W (hb : Below w.heap.size w W) => r7Peak_any A c l W (hr.old hb) hl)
  have HR1 := Lib.hid (fun W (hb : Below w.heap.size w W) => lRate_any A c l t W (hr.old hb) hl htl (HT W hb))
  have HR2 := Lib.hid (fun W (hb : Below w.heap.size w W) => r7Rate_any A c l t W (hr.old hb) hl htl (HT W hb))
  have HA1 := Lib.hid (fun W (hb : Below w.heap.size w W) => lArea_any A c l t W (hr.old hb) hl htl (HT W hb))
  have HA2 := Lib.hid (fun W (hb : Below w.heap.size w W) => r7AreaP_any A c l t W (hr.old hb) hl htl (HT W hb))
  have hRL := rateP_len l t
  have hAL := areaP_len l t
  have hG := rngC_rng l t
  unfold ratOf at HR1 HR2 HA1 HA2
  obtain ⟨E, hE⟩ : ∃ x, x = rngC l t := ⟨_, rfl⟩
  obtain ⟨C, hC⟩ : ∃ x, x = codeS l := ⟨_, rfl⟩
  obtain ⟨n, hn⟩ : ∃ x, x = lengthV l := ⟨_, rfl⟩
  obtain ⟨p, hp⟩ : ∃ x, x = (peakV l).1 := ⟨_, rfl⟩
  obtain ⟨q, hq⟩ : ∃ x, x = (peakV l).2 := ⟨_, rfl⟩
  obtain ⟨ra, hra⟩ : ∃ x, x = (rateP l t).1 := ⟨_, rfl⟩
  obtain ⟨rb, hrb⟩ : ∃ x, x = (rateP l t).2 := ⟨_, rfl⟩
  obtain ⟨aa, haa⟩ : ∃ x, x = (areaP l t).1 := ⟨_, rfl⟩
  obtain ⟨ab, hab⟩ : ∃ x, x = (areaP l t).2 := ⟨_, rfl⟩
  rw [← hE] at HR1 HR2 HA1 HA2 hG
  rw [← hra, ← hrb] at HR1 HR2 hRL
  rw [← haa, ← hab] at HA1 HA2 hAL
  rw [← hC] at HC1 HC2
  rw [← hn, ← hC] at HL1 HL2
  rw [← hp, ← hq, ← hC] at HP1 HP2
  have HTR := Lib.hid (fun W (hb : Below w.heap.size w W) => toldRat_any ra rb E W (HT W hb) (by omega) (by omega) (by unfold I64; omega))
  have HTA := Lib.hid (fun W (hb : Below w.heap.size w W) => toldRat_any aa ab E W (HT W hb) (by omega) (by omega) (by unfold I64; omega))
  obtain ⟨s1, hs1⟩ : ∃ s : ByteArray, s = ⟨(tellRat ra rb E).toArray⟩ := ⟨_, rfl⟩
  obtain ⟨s2, hs2⟩ : ∃ s : ByteArray, s = ⟨(tellRat aa ab E).toArray⟩ := ⟨_, rfl⟩
  rw [← hs1] at HTR
  rw [← hs2] at HTA
  clear hr ht HT hE hC hn hp hq hra hrb haa hab hs1 hs2 hRL hAL hG
  go_enter Tryz.func3, Tryz.ntmps3
  go_wp2_with fail
  (with_reducible refine HC1.out.mono ?_)
  rintro e w1 ⟨rfl, hb1⟩
  have HB1 := Lib.hid hb1
  clear hb1 HC1
  go_wp2_with fail
  (with_reducible refine (HC2.out _ HB1.out).mono ?_)
  rintro e w2 ⟨rfl, hb2⟩
  have HB2 := Lib.hid (below_next HB1.out hb2)
  clear hb2
  go_wp2_with fail
  (with_reducible refine (HL1.out _ HB2.out).mono ?_)
  rintro e w3 ⟨rfl, hb3⟩
  have HB3 := Lib.hid (below_next HB2.out hb3)
  clear hb3
  go_wp2_with fail
  (with_reducible refine (HL2.out _ HB3.out).mono ?_)
  rintro e w4 ⟨rfl, hb4⟩
  have HB4 := Lib.hid (below_next HB3.out hb4)
  clear hb4
  go_wp2_with fail
  (with_reducible refine (HP1.out _ HB4.out).mono ?_)
  rintro e w5 ⟨rfl, hb5⟩
  have HB5 := Lib.hid (below_next HB4.out hb5)
  clear hb5
  go_wp2_with fail
  (with_reducible refine (HP2.out _ HB5.out).mono ?_)
  rintro e w6 ⟨rfl, hb6⟩
  have HB6 := Lib.hid (below_next HB5.out hb6)
  clear hb6
  go_wp2_with fail
  (with_reducible refine (HR1.out _ HB6.out).mono ?_)
  rintro e w7 ⟨rfl, hb7⟩
  have HB7 := Lib.hid (below_next HB6.out hb7)
  clear hb7
  go_wp2_with fail
  (with_reducible refine (HTR.out _ HB7.out).mono ?_)
  rintro e w8 ⟨rfl, hb8⟩
  have HB8 := Lib.hid (below_next HB7.out hb8)
  clear hb8
  go_wp2_with fail
  (with_reducible refine (HR2.out _ HB8.out).mono ?_)
  rintro e w9 ⟨rfl, hb9⟩
  have HB9 := Lib.hid (below_next HB8.out hb9)
  clear hb9
  go_wp2_with fail
  (with_reducible refine (HTR.out _ HB9.out).mono ?_)
  rintro e w10 ⟨rfl, hb10⟩
  have HB10 := Lib.hid (below_next HB9.out hb10)
  clear hb10
  go_wp2_with fail
  (with_reducible refine (HA1.out _ HB10.out).mono ?_)
  rintro e w11 ⟨rfl, hb11⟩
  have HB11 := Lib.hid (below_next HB10.out hb11)
  clear hb11
  go_wp2_with fail
  (with_reducible refine (HTA.out _ HB11.out).mono ?_)
  rintro e w12 ⟨rfl, hb12⟩
  have HB12 := Lib.hid (below_next HB11.out hb12)
  clear hb12
  go_wp2_with fail
  (with_reducible refine (HA2.out _ HB12.out).mono ?_)
  rintro e w13 ⟨rfl, hb13⟩
  have HB13 := Lib.hid (below_next HB12.out hb13)
  clear hb13
  go_wp2_with fail
  (with_reducible refine (HTA.out _ HB13.out).mono ?_)
  rintro e w14 ⟨rfl, hb14⟩
  have HB14 := Lib.hid (below_next HB13.out hb14)
  clear hb14
  go_wp2_with fail
  (with_reducible refine (HEV.out w14).mono ?_)
  rintro e w15 ⟨rfl, hb15⟩
  have HB15 := Lib.hid (below_next HB14.out hb15)
  clear hb15
  go_wp2
  go_ret
  exact ⟨rfl, HB15.out⟩
end Go.Proofs.YtepfmoaihhonlaaGreatDoor
