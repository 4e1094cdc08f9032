/- Package dynamometerref10: CheckRatio. -/
import Derived.Test.YtlkjgjojahjapaaGreatDoorG1
import Derived.Test.YtlkjgjojahjapaaGreatDoorG19
import Derived.Test.YtlkjgjojahjapaaGreatDoorG13
import Derived.Deep.RegionHeld3
namespace Go.Proofs.YtlkjgjojahjapaaGreatDoor
open Go Go.RowKit Go.Proofs

theorem cRt_form {a b : List UInt8} (h : dgB (unsg a) = false ∨ dgB b = false ∨ b = [48] ∨ a = [45, 48]) : cRt a b = 2 := by unfold cRt codeRt; rw [if_pos h]
theorem cRt_size {a b : List UInt8} (h : ¬ (dgB (unsg a) = false ∨ dgB b = false ∨ b = [48] ∨ a = [45, 48])) (h2 : 2000 < (unsg a).length ∨ 2000 < b.length) : cRt a b = 3 := by unfold cRt codeRt; rw [if_neg h, if_pos h2]
theorem cRt_gcd {a b : List UInt8} (h : ¬ (dgB (unsg a) = false ∨ dgB b = false ∨ b = [48] ∨ a = [45, 48])) (h2 : ¬ (2000 < (unsg a).length ∨ 2000 < b.length)) (G : Nat) (hG : G = Nat.gcd (dgV (unsg a)) (dgV b)) : cRt a b = if G = 1 then 0 else 2 := by
  unfold cRt codeRt
  rw [if_neg h, if_neg h2, hG]
theorem cmp_one {x : Nat} : (cmpN x 1 != 0) = decide (x ≠ 1) := by
  unfold cmpN
  by_cases h : x = 1
  · subst h; rfl
  · rw [decide_eq_true h]
    split
    · rfl
    · first | rfl | (rw [if_neg h]; rfl) | (split <;> first | rfl | omega)
theorem gcd_len {L M : List UInt8} (hd : ∀ c ∈ L, 48 ≤ c.toNat ∧ c.toNat ≤ 57) (hd2 : ∀ c ∈ M, 48 ≤ c.toNat ∧ c.toNat ≤ 57) : Nat.gcd (dgV L) (dgV M) < 10 ^ (L.length + M.length) := by
  have h1 := dgV_lt hd
  have h2 := dgV_lt hd2
  rw [Nat.pow_add]
  rcases Nat.eq_zero_or_pos (dgV L) with h | h
  · rw [h, Nat.gcd_zero_left]
    exact Nat.lt_of_lt_of_le h2 (Nat.le_mul_of_pos_left _ (Nat.pow_pos (by omega)))
  · exact Nat.lt_of_le_of_lt (Nat.gcd_le_left _ h) (Nat.lt_of_lt_of_le h1 (Nat.le_mul_of_pos_right _ (Nat.pow_pos (by omega))))
set_option maxHeartbeats 4000000 in
set_option maxRecDepth 100000 in
theorem rChk_any (Sa Sb : ByteArray) (a b : List UInt8) (w : World) (hSa : Sa.data.toList = a) (hSb : Sb.data.toList = b) (ha : Sa.size ≤ 9223372036854775800) (hb : Sb.size ≤ 9223372036854775800) :
    Calls Tryz.prog 126 #[.agg #[.string Sa, .string Sb]] w fun e w' => e = .returned (.int .i64 (cRt a b)) ∧ Below w.heap.size w w' := by
  have HU := Lib.hid (fun W => rUnsigned_any Sa a W hSa (by omega))
  obtain ⟨SU, hSU⟩ : ∃ SU : ByteArray, SU = ⟨(unsg a).toArray⟩ := ⟨_, rfl⟩
  rw [← hSU] at HU
  have hU : SU.data.toList = unsg a := by rw [hSU]
  have hua : (unsg a).length ≤ a.length := by unfold unsg; split <;> simp
  have hza := ba_size hSa
  have hzb := ba_size hSb
  have hzu := ba_size hU
  have HB1 := Lib.hid (fun W => rDigitsB_any SU (unsg a) W hU (by omega))
  have HB2 := Lib.hid (fun W => rDigitsB_any Sb b W hSb (by omega))
  obtain ⟨d1, hd1⟩ : ∃ d, d = dgB (unsg a) := ⟨_, rfl⟩
  obtain ⟨d2, hd2⟩ : ∃ d, d = dgB b := ⟨_, rfl⟩
  obtain ⟨e3, he3⟩ : ∃ d, d = (Sb.toList == [48]) := ⟨_, rfl⟩
  obtain ⟨e4, he4⟩ : ∃ d, d = (Sa.toList == [45, 48]) := ⟨_, rfl⟩
  have hf3 : e3 = true ↔ b = [48] := by rw [he3, ByteArray.toList_eq, hSb, beq_iff_eq]
  have hf4 : e4 = true ↔ a = [45, 48] := by rw [he4, ByteArray.toList_eq, hSa, beq_iff_eq]
  rw [← hd1] at HB1
  rw [← hd2] at HB2
  have x3 := he3.symm
  have x4 := he4.symm
  obtain ⟨W0, hW0⟩ : ∃ W0, W0 = w.alloc (.cells #[.string Sa, .string Sb] 23) := ⟨_, rfl⟩
  have HST0 := Lib.hid (show St w W0 [(w.heap.size, .cells #[.string Sa, .string Sb] 23 (0, 0))] by rw [hW0]; exact (St.start w).alloc _ _ rfl)
  have HKS := Lib.hid (show ∀ X, Below W0.heap.size W0 X → (fun X => Below W0.heap.size W0 X ∧ X.cell? ⟨w.heap.size, 0, none⟩ = some (.string Sa) ∧ X.cell? ⟨w.heap.size, 1, none⟩ = some (.string Sb)) X from fun X hX => ⟨hX, (HST0.out.call hX).cell 0 0 rfl rfl, (HST0.out.call hX).cell 0 1 rfl rfl⟩)
  have HBW := Lib.hid (show ∀ X, Below W0.heap.size W0 X → Below w.heap.size w X from fun X hX => below_next HST0.out.below hX)
  have HFM := Lib.hid (fun h => cRt_form (a := a) (b := b) h)
  have HSZ := Lib.hid (fun h => cRt_size (a := a) (b := b) h)
  have HGC := Lib.hid (fun h h2 G hG => cRt_gcd (a := a) (b := b) h h2 G hG)
  obtain ⟨rv, hrv⟩ : ∃ rv, rv = cRt a b := ⟨_, rfl⟩
  rw [← hrv] at HFM HSZ HGC ⊢
  clear hrv
  cases d1 with
  | false =>
    have HR := Lib.hid (HFM.out (.inl hd1.symm))
    clear hd1 hd2 he3 he4 hf3 hf4 x3 x4 HFM HSZ HGC hSU hU hSa hSb
    go_enter Tryz.func126, Tryz.ntmps126
    go_wp2_with fail
    rw [← hW0]
    clear hW0
    obtain ⟨_, f0, f1⟩ := HKS.out W0 (Below.refl _ W0)
    go_wp2_with fail
    (with_reducible refine (HU.out _).mono ?_)
    rintro e w1 ⟨rfl, rfl⟩
    go_wp2_with fail
    (with_reducible refine (HB1.out _).mono ?_)
    rintro e w2 ⟨rfl, hb2⟩
    go_wp2
    go_ret
    exact ⟨by rw [HR.out]; rfl, HBW.out _ hb2⟩
  | true =>
    cases d2 with
    | false =>
      have HR := Lib.hid (HFM.out (.inr (.inl hd2.symm)))
      clear hd1 hd2 he3 he4 hf3 hf4 x3 x4 HFM HSZ HGC hSU hU hSa hSb
      go_enter Tryz.func126, Tryz.ntmps126
      go_wp2_with fail
      rw [← hW0]
      clear hW0
      obtain ⟨_, f0, f1⟩ := HKS.out W0 (Below.refl _ W0)
      go_wp2_with fail
      (with_reducible refine (HU.out _).mono ?_)
      rintro e w1 ⟨rfl, rfl⟩
      go_wp2_with fail
      (with_reducible refine (HB1.out _).mono ?_)
      rintro e w2 ⟨rfl, hb2⟩
      have HB2_ := Lib.hid hb2
      clear f0 f1
      obtain ⟨_, f0, f1⟩ := HKS.out w2 hb2
      go_wp2_with fail
      (with_reducible refine (HB2.out _).mono ?_)
      rintro e w3 ⟨rfl, hb3⟩
      go_wp2
      go_ret
      exact ⟨by rw [HR.out]; rfl, HBW.out _ (below_next HB2_.out hb3)⟩
    | true =>
      by_cases hbad : e3 = true ∨ e4 = true
      · have HR := Lib.hid (HFM.out (.inr (.inr (hbad.imp hf3.1 hf4.1))))
        clear hd1 hd2 he3 he4 hf3 hf4 HFM HSZ HGC hSU hU hSa hSb
        go_enter Tryz.func126, Tryz.ntmps126
        go_wp2_with fail
        rw [← hW0]
        clear hW0
        obtain ⟨_, f0, f1⟩ := HKS.out W0 (Below.refl _ W0)
        go_wp2_with fail
        (with_reducible refine (HU.out _).mono ?_)
        rintro e w1 ⟨rfl, rfl⟩
        go_wp2_with fail
        (with_reducible refine (HB1.out _).mono ?_)
        rintro e w2 ⟨rfl, hb2⟩
        have HB2_ := Lib.hid hb2
        clear f0 f1
        obtain ⟨_, f0, f1⟩ := HKS.out w2 hb2
        go_wp2_with fail
        (with_reducible refine (HB2.out _).mono ?_)
        rintro e w3 ⟨rfl, hb3⟩
        have hb23 := below_next HB2_.out hb3
        clear f0 f1
        obtain ⟨_, f0, f1⟩ := HKS.out w3 hb23
        cases e3 with
        | true =>
          go_wp2
          go_ret
          exact ⟨by rw [HR.out]; rfl, HBW.out _ hb23⟩
        | false =>
          obtain rfl : e4 = true := by simpa using hbad
          go_wp2
          go_ret
          exact ⟨by rw [HR.out]; rfl, HBW.out _ hb23⟩
      · simp only [not_or, Bool.not_eq_true] at hbad
        obtain ⟨rfl, rfl⟩ := hbad
        have hok : ¬ (dgB (unsg a) = false ∨ dgB b = false ∨ b = [48] ∨ a = [45, 48]) := by
          rw [← hd1, ← hd2, ← hf3, ← hf4]; simp
        have HSZ := Lib.hid (HSZ.out hok)
        have HGC := Lib.hid (HGC.out hok)
        have hdu := (dgB_digits hd1.symm).2.1
        have hdb := (dgB_digits hd2.symm).2.1
        have HD1 := Lib.hid (fun W (h : SU.size ≤ 1000000) => rDigits_s SU (unsg a) W hU h hdu)
        have HD2 := Lib.hid (fun W (h : Sb.size ≤ 1000000) => rDigits_s Sb b W hSb h hdb)
        have HG := Lib.hid (fun W A1 A2 c1 c2 l1 l2 (h1 : RNatR W A1 c1 l1 (dgV (unsg a))) (h2 : RNatR W A2 c2 l2 (dgV b)) (h3 : (unsg a).length ≤ 2000) (h4 : b.length ≤ 2000) => rnatGcd_any A1 A2 c1 c2 l1 l2 _ _ W h1 h2 (by have := dgt_len h1 hdu; omega) (by have := dgt_len h2 hdb; omega))
        have HGL := Lib.hid (gcd_len hdu hdb)
        have HO := Lib.hid (fun W => rnatOf_any 1 W (by omega))
        rw [show (1 : Int).toNat = 1 from rfl] at HO
        clear hd1 hd2 he3 he4 hf3 hf4 HFM hSU hU hSa hSb hdu hdb hok
        by_cases hsz : 2000 < (unsg a).length ∨ 2000 < b.length
        · have HR := Lib.hid (HSZ.out hsz)
          rw [← hzu, ← hzb] at hsz
          go_enter Tryz.func126, Tryz.ntmps126
          go_wp2_with fail
          rw [← hW0]
          clear hW0
          obtain ⟨_, f0, f1⟩ := HKS.out W0 (Below.refl _ W0)
          go_wp2_with fail
          (with_reducible refine (HU.out _).mono ?_)
          rintro e w1 ⟨rfl, rfl⟩
          go_wp2_with fail
          (with_reducible refine (HB1.out _).mono ?_)
          rintro e w2 ⟨rfl, hb2⟩
          have HB2_ := Lib.hid hb2
          clear f0 f1
          obtain ⟨_, f0, f1⟩ := HKS.out w2 hb2
          go_wp2_with fail
          (with_reducible refine (HB2.out _).mono ?_)
          rintro e w3 ⟨rfl, hb3⟩
          have hb23 := below_next HB2_.out hb3
          clear f0 f1
          obtain ⟨_, f0, f1⟩ := HKS.out w3 hb23
          by_cases h1 : 2000 < SU.size
          · have t1 : decide ((2000 : Int) < (SU.size : Int)) = true := decide_eq_true (by omega)
            have t2 : decide (2000 < SU.size) = true := decide_eq_true h1
            go_wp2
            go_ret
            exact ⟨by rw [HR.out]; rfl, HBW.out _ hb23⟩
          · have t1 : decide ((2000 : Int) < (SU.size : Int)) = false := decide_eq_false (by omega)
            have t2 : decide (2000 < SU.size) = false := decide_eq_false h1
            have t3 : decide ((2000 : Int) < (Sb.size : Int)) = true := decide_eq_true (by omega)
            have t4 : decide (2000 < Sb.size) = true := decide_eq_true (by omega)
            go_wp2
            go_ret
            exact ⟨by rw [HR.out]; rfl, HBW.out _ hb23⟩
        · obtain ⟨G, hG⟩ : ∃ G, G = Nat.gcd (dgV (unsg a)) (dgV b) := ⟨_, rfl⟩
          have hR := HGC.out hsz G hG
          rw [← hG] at HG HGL
          have HR := Lib.hid hR
          obtain ⟨E, hE0, hE⟩ : ∃ E, 4000 ≤ E ∧ E ≤ 4000 := ⟨4000, Nat.le_refl _, Nat.le_refl _⟩
          have hgl : G < 10 ^ E := Nat.lt_of_lt_of_le HGL.out (Nat.pow_le_pow_right (by omega) (by omega))
          have HGT := Lib.hid (show G < T4 ^ E from Nat.lt_of_lt_of_le hgl (Nat.pow_le_pow_left (by unfold T4; omega) _))
          have HGG := Lib.hid (fun W A1 A2 c1 c2 l1 l2 h1 h2 => HG.out W A1 A2 c1 c2 l1 l2 h1 h2 (by omega) (by omega))
          have HE1 := Lib.hid (fun W => HD1.out W (by omega))
          have HE2 := Lib.hid (fun W => HD2.out W (by omega))
          obtain ⟨cv, hcv⟩ : ∃ cv, cv = cmpN G 1 := ⟨_, rfl⟩
          have HC := Lib.hid (fun W A1 A2 c1 c2 l1 l2 (h1 : RNatR W A1 c1 l1 G) (h2 : RNatR W A2 c2 l2 1) => rnatCmp_any A1 A2 c1 c2 l1 l2 G 1 W h1 h2 (by have := h1.len HGT.out; omega) (by have := h2.len (n := 1) (by unfold T4; omega); omega))
          rw [← hcv] at HC
          obtain ⟨zb, hzq⟩ : ∃ zb, zb = (cv != 0) := ⟨_, rfl⟩
          have t5 := hzq.symm
          have hR2 : rv = if zb = true then 2 else 0 := by
            rw [hR, hzq, hcv, cmp_one]
            by_cases h1 : G = 1 <;> simp [h1]
          have HR := Lib.hid hR2
          have t1 : decide ((2000 : Int) < (SU.size : Int)) = false := decide_eq_false (by omega)
          have t2 : decide (2000 < SU.size) = false := decide_eq_false (by omega)
          have t3 : decide ((2000 : Int) < (Sb.size : Int)) = false := decide_eq_false (by omega)
          have t4 : decide (2000 < Sb.size) = false := decide_eq_false (by omega)
          clear hR hG hgl HGL HG HD1 HD2 HSZ HGC hcv hzq hR2 hsz hzu hzb hza hua
          go_enter Tryz.func126, Tryz.ntmps126
          go_wp2_with fail
          rw [← hW0]
          clear hW0
          obtain ⟨_, f0, f1⟩ := HKS.out W0 (Below.refl _ W0)
          go_wp2_with fail
          (with_reducible refine (HU.out _).mono ?_)
          rintro e w1 ⟨rfl, rfl⟩
          go_wp2_with fail
          (with_reducible refine (HB1.out _).mono ?_)
          rintro e w2 ⟨rfl, hb2⟩
          have HB2_ := Lib.hid hb2
          clear f0 f1
          obtain ⟨_, f0, f1⟩ := HKS.out w2 hb2
          go_wp2_with fail
          (with_reducible refine (HB2.out _).mono ?_)
          rintro e w3 ⟨rfl, hb3⟩
          have HB3_ := Lib.hid (below_next HB2_.out hb3)
          clear f0 f1 hb2 hb3
          have HK3 := Lib.hid (show ∀ X, Below w3.heap.size w3 X → (fun X => Below w3.heap.size w3 X ∧ X.cell? ⟨w.heap.size, 1, none⟩ = some (.string Sb)) X from fun X hX => ⟨hX, (HKS.out X (below_next HB3_.out hX)).2.2⟩)
          obtain ⟨_, f0, f1⟩ := HKS.out w3 HB3_.out
          go_upto_region 6 with fail
          go_region_held3 (fun X => Below w3.heap.size w3 X ∧ X.cell? ⟨w.heap.size, 1, none⟩ = some (.string Sb))
            (first
              | exact HK3.out _ (Below.refl _ w3).drew
              | (go_split_ands; refine HK3.out _ (below_next ?_ hb5); assumption)
              | (go_split_ands; refine HK3.out _ (below_next ?_ hb6); assumption)
              | (go_split_ands; refine HK3.out _ (below_next ?_ hb7); assumption)
              | (go_split_ands; refine HK3.out _ (below_next ?_ hb8); assumption)
              | (go_split_ands; refine HK3.out _ (below_drewN ?_ _); assumption))
            (first
              | (go_at_call 36; (with_reducible refine (HE1.out _).mono ?_); rintro e w5 ⟨A5, c5, l5, rfl, hn5, hb5⟩)
              | (go_at_call 36; (with_reducible refine (HE2.out _).mono ?_); rintro e w6 ⟨A6, c6, l6, rfl, hn6, hb6⟩)
              | (go_at_call 89; (with_reducible refine (HGG.out _ A5 A6 c5 c6 l5 l6 (hn5.on hb6) hn6).mono ?_); rintro e w7 ⟨A7, c7, l7, rfl, hn7, hb7⟩)
              | (go_at_call 58; (with_reducible refine (HO.out _).mono ?_); rintro e w8 ⟨A8, c8, l8, rfl, hn8, hb8⟩)
              | (go_at_call 61; (with_reducible refine (HC.out _ A7 A8 c7 c8 l7 l8 (hn7.on hb8) hn8).mono ?_); rintro e w9 ⟨rfl, q9, rfl⟩))
          have hbl : Below w3.heap.size w3 (w8.drewN q9) := by go_split_ands; assumption
          have HBF := Lib.hid (HBW.out _ (below_next HB3_.out hbl))
          clear hn5 hn6 hn7 hn8 hb5 hb6 hb7 hb8 hbl
          cases zb with
          | true =>
            go_wp2
            go_ret
            exact ⟨by rw [HR.out]; rfl, HBF.out⟩
          | false =>
            go_wp2
            go_ret
            exact ⟨by rw [HR.out]; rfl, HBF.out⟩
end Go.Proofs.YtlkjgjojahjapaaGreatDoor
