/- LoadEditsKeepAreas: the law's walk. Printed by gen_keep.py. -/
import Derived.Test.YtepfmoaihhonlaaGreatDoorGKeep
import Derived.Test.YtepfmoaihhonlaaGreatDoorLawLine
import Derived.Test.YtepfmoaihhonlaaGreatDoorGEdit
import Derived.Test.YtepfmoaihhonlaaGreatDoorGFrac
namespace Go.Proofs.YtepfmoaihhonlaaGreatDoor
open Go Go.RowKit Go.Proofs

theorem ordQ_self (q : Rat) : ordQ q q = 0 := by
  unfold ordQ
  rw [if_neg (by exact Rat.lt_irrefl), if_pos rfl]
theorem chn_ok {a b : List (Int × Int × Int)} (ha : codeS a = 0) (hb : codeS b = 0) (h : chnC a b = 0) : OkL (a ++ b) ∧ chnL a b = a ++ b ∧ whA (a ++ b) = whA a + whA b := by
  refine ⟨?_, by unfold chnL; rw [if_pos h], whA_app a b⟩
  unfold chnC at h
  rw [if_neg (by omega), if_neg (by omega)] at h
  exact codeS_ok h
theorem chgK_ok {k : Int} {a l : List (Int × Int × Int)} (h : chgC k a l = 0) : 1 ≤ k ∧ k ≤ 1000 ∧ OkL l ∧ chgL k a l = l := by
  refine ⟨?_, ?_, ?_, by unfold chgL; rw [if_pos h]⟩
  all_goals
    unfold chgC at h
    split at h
    · rename_i hn; exact absurd h hn
    · split at h
      · omega
      · first | omega | exact codeS_ok h
theorem rev_ok {a : List (Int × Int × Int)} (ha : codeS a = 0) : OkL (revL a) ∧ revL a = (a.map swpS).reverse ∧ lenS (revL a) = lenS a := by
  have e : revL a = (a.map swpS).reverse := by unfold revL; rw [if_pos ha]
  have hok := codeS_ok ha
  refine ⟨?_, e, by rw [e, swp_len]⟩
  rw [e]
  exact ⟨by rw [List.length_reverse, List.length_map]; exact hok.ne, by rw [List.length_reverse, List.length_map]; exact hok.le, swp_ok hok.ok, by rw [swp_len]; exact hok.sum⟩

set_option maxHeartbeats 8000000 in
set_option maxRecDepth 100000 in
theorem keep_ok (A B : Option Addr) (c d : Nat) (a b : List (Int × Int × Int)) (k t : Int) (w : World) (ht : Tab w.heap.size w) (ha : Rd w 0 w.heap.size 3 A a.length (cells3 a)) (hb : Rd w 0 w.heap.size 3 B b.length (cells3 b)) (hca : codeS a = 0) (hcb : codeS b = 0) (ht1 : t ≤ 9223372036854775807) :
    Calls Tryz.prog 4 #[.slice A a.length c, .slice B b.length d, .int .i64 k, .int .i64 t] w fun e w' => e = .returned (.bool true) ∧ Below w.heap.size w w' := by
  have oka := codeS_ok hca
  have okb := codeS_ok hcb
  have hla := oka.le
  have hlb := okb.le
  have hsa := oka.sum
  have HT := fun W (h : Below w.heap.size w W) => (ht.on h).mono h.size
  have HEV := Lib.hid (fun W => lawEven_any W)
  have HCA := Lib.hid (r7Check_any A c a w ha (by omega))
  have HCB := Lib.hid (fun W (h : Below w.heap.size w W) => r7Check_any B d b W (hb.old h) (by omega))
  rw [hca] at HCA
  rw [hcb] at HCB
  have HAA := Lib.hid (fun W (h : Below w.heap.size w W) => lawArea_any A c a W (ha.old h) oka (HT W h))
  have HAB := Lib.hid (fun W (h : Below w.heap.size w W) => lawArea_any B d b W (hb.old h) okb (HT W h))
  have HAX := Lib.hid (fun W A' c' l (h : Below w.heap.size w W) (hr : Rd W 0 W.heap.size 3 A' l.length (cells3 l)) (hok : OkL l) => lawArea_any A' c' l W hr hok (HT W h))
  have HCH := Lib.hid (fun W (h : Below w.heap.size w W) => chainPub_any A B c d a b W (ha.old h) (hb.old h) (by omega) (by omega))
  have HSR := Lib.hid (fun W (h : Below w.heap.size w W) => stretch_any A c a k W (ha.old h) (by omega))
  have HTM := Lib.hid (fun W (h : Below w.heap.size w W) => timesPub_any A c a k W (ha.old h) (by omega))
  have HRV := Lib.hid (fun W (h : Below w.heap.size w W) => reversePub_any A c a W (ha.old h) (by omega))
  rw [hca] at HRV
  have HLN := Lib.hid (fun (W : World) (h : Below w.heap.size w W) => lLength_any A c a W (ha.old h) (by omega))
  rw [hca, show lengthV a = lenS a from by unfold lengthV; rw [if_neg (by omega)]] at HLN
  have HLA := Lib.hid (fun (W : World) (h : Below w.heap.size w W) => lArea_any A c a t W (ha.old h) (by omega) ht1 (HT W h))
  have HRA := Lib.hid (fun (W : World) (h : Below w.heap.size w W) => r7AreaP_any A c a t W (ha.old h) (by omega) ht1 (HT W h))
  have HTB := Lib.hid HT
  have sza := (wholeT oka).sz
  have szb := (wholeT okb).sz
  have HSZ := Lib.hid (And.intro sza szb)
  have HOK := Lib.hid (And.intro oka okb)
  have HCD := Lib.hid (And.intro hca hcb)
  obtain ⟨qa, hqa⟩ : ∃ q, q = whA a := ⟨_, rfl⟩
  obtain ⟨qb, hqb⟩ : ∃ q, q = whA b := ⟨_, rfl⟩
  rw [← hqa] at HAA HSZ
  rw [← hqb] at HAB HSZ
  have HQA := Lib.hid hqa
  have HQB := Lib.hid hqb
  obtain ⟨n, hn⟩ : ∃ n, n = lenS a := ⟨_, rfl⟩
  rw [← hn] at HLN hsa
  have HN := Lib.hid hn
  have hn0 : 0 ≤ n := by rw [hn]; exact lenS_nn oka.ok
  have HA0 := Lib.hid ha
  clear hqa hqb hn sza szb oka okb hca hcb ht ha hb HT
  go_enter Tryz.func4, Tryz.ntmps4
  go_wp2_with fail
  (with_reducible refine HCA.out.mono ?_)
  rintro e w1 ⟨rfl, hb1⟩
  have HB1 := Lib.hid hb1
  clear hb1
  go_wp2_with fail
  (with_reducible refine (HCB.out w1 HB1.out).mono ?_)
  rintro e w2 ⟨rfl, hb2⟩
  have HB2 := Lib.hid (below_next HB1.out hb2)
  clear hb2
  go_wp2_with fail
  (with_reducible refine (HAA.out w2 HB2.out).mono ?_)
  rintro e w3 ⟨v3, rfl, hv3, hb3⟩
  have hv3' := hv3
  obtain ⟨A1, c1, l1, A2, c2, l2, rfl, -, -⟩ := hv3'
  have HB3 := Lib.hid (below_next HB2.out hb3)
  have HV3 := Lib.hid hv3
  clear hb3 hv3
  obtain ⟨W3, hW3⟩ : ∃ W3, W3 = w3.alloc (.cells #[.bool (frS qa), .slice A1 l1.length c1, .slice A2 l2.length c2] 39) := ⟨_, rfl⟩
  have HST3 := Lib.hid (show St w3 W3 [(w3.heap.size, .cells #[.bool (frS qa), .slice A1 l1.length c1, .slice A2 l2.length c2] 39 (0, 0))] by rw [hW3]; exact (St.start w3).alloc _ _ rfl)
  have HB3' := Lib.hid (below_next HB3.out HST3.out.below)
  go_wp2_with fail
  rw [← hW3]
  clear hW3
  (with_reducible refine (HAB.out W3 HB3'.out).mono ?_)
  rintro e w4 ⟨v4, rfl, hv4, hb4⟩
  have hv4' := hv4
  obtain ⟨A3, c3, l3, A4, c4, l4, rfl, -, -⟩ := hv4'
  have HST4 := Lib.hid (HST3.out.call hb4)
  have HB4 := Lib.hid (below_next HB3'.out hb4)
  have HV4 := Lib.hid hv4
  have hlt34 := HST4.out.lt 0 rfl
  clear hb4 hv4
  obtain ⟨W4, hW4⟩ : ∃ W4, W4 = w4.alloc (.cells #[.bool (frS qb), .slice A3 l3.length c3, .slice A4 l4.length c4] 39) := ⟨_, rfl⟩
  have HST5 := Lib.hid (show St w3 W4 [(w3.heap.size, .cells #[.bool (frS qa), .slice A1 l1.length c1, .slice A2 l2.length c2] 39 (0, 0)), (w4.heap.size, .cells #[.bool (frS qb), .slice A3 l3.length c3, .slice A4 l4.length c4] 39 (0, 0))] by rw [hW4]; exact HST4.out.alloc _ _ rfl)
  have hb44 : Below w4.heap.size w4 W4 := by rw [hW4]; exact (Below.refl _ w4).alloc (Nat.le_refl _) _
  have HBW := Lib.hid (below_next HB4.out hb44)
  have HX := Lib.hid (fun X (h : Below W4.heap.size W4 X) => (HV3.out.on (HST5.out.call h).below))
  have HY := Lib.hid (fun X (h : Below W4.heap.size W4 X) => (HV4.out.on hb44).on h)
  have HCX := Lib.hid (fun X (h : Below W4.heap.size W4 X) => HST5.out.call h)
  have HTOT := Lib.hid (fun X (h : Below W4.heap.size W4 X) => below_next HBW.out h)
  have HPL := Lib.hid (fun X (h : Below W4.heap.size W4 X) => rPlus_any 20 _ _ qa qb X (by omega) (HX.out X h) (HY.out X h) HSZ.out.1 HSZ.out.2)
  have HTI := Lib.hid (fun X v (q : Rat) (h : Below W4.heap.size W4 X) (hv : FracR X v q) (hs : Sz 20 q) => rTimes_any 20 _ v qa q X (by omega) (HX.out X h) hv HSZ.out.1 hs)
  have HORX := Lib.hid (fun X v (h : Below W4.heap.size W4 X) (hv : FracR X v qa) => rOrder_any 20 v _ qa qa X (by omega) hv (HX.out X h) HSZ.out.1 HSZ.out.1)
  rw [ordQ_self] at HORX
  have HORD := Lib.hid (fun X u v (q : Rat) (hu : FracR X u q) (hv : FracR X v q) (hs : Sz 100 q) => rOrder_any 100 u v q q X (by omega) hu hv hs hs)
  simp only [ordQ_self] at HORD
  clear hb44
  go_wp2_with fail
  rw [← hW4]
  clear hW4
  (with_reducible refine (HCH.out W4 HBW.out).mono ?_)
  rintro e w5 ⟨A5, c5, rfl, hr5, hb5⟩
  have HB5 := Lib.hid hb5
  have HR5 := Lib.hid hr5
  clear hb5 hr5
  obtain ⟨E5, hE5⟩ : ∃ E, E = chnC a b := ⟨_, rfl⟩
  obtain ⟨L5, hL5⟩ : ∃ L, L = chnL a b := ⟨_, rfl⟩
  rw [← hL5] at HR5 ⊢
  rw [← hE5]
  have HE5 := Lib.hid hE5
  have HL5 := Lib.hid hL5
  clear hE5 hL5
  go_upto_if 65 with fail
  go_cut [15, 16] from 33 (fun _ _ wx => Below W4.heap.size W4 wx)
  case first =>
    by_cases hc : E5 = 0
    · have t1 : (E5 == 0) = true := by simpa using hc
      obtain ⟨ok, hL, hq⟩ := chn_ok HCD.out.1 HCD.out.2 (HE5.out.symm.trans hc)
      have hLe : L5 = a ++ b := HL5.out.trans hL
      rw [← HQA.out, ← HQB.out] at hq
      obtain ⟨q5, hz⟩ : ∃ q, q = qa + qb := ⟨_, rfl⟩
      have hwh : whA L5 = q5 := by rw [hLe, hz]; exact hq
      have hsz : Sz 100 q5 := by rw [hz]; exact sz_mono (sz_add HSZ.out.1 HSZ.out.2) (by omega)
      rw [← hz] at HPL
      have hoL : OkL L5 := by rw [hLe]; exact ok
      have HAR := Lib.hid (HAX.out w5 A5 c5 L5 (HTOT.out _ HB5.out) HR5.out hoL)
      rw [hwh] at HAR
      have HORZ := Lib.hid (fun X u v (hu : FracR X u q5) (hv : FracR X v q5) => HORD.out X u v q5 hu hv hsz)
      clear hz hwh hLe hL ok hoL hc
      go_wp2_with fail
      (with_reducible refine HAR.out.mono ?_)
      rintro e w105 ⟨vz, rfl, hvz, hbz⟩
      have hvz' := hvz
      obtain ⟨A7, c7, l7, A8, c8, l8, rfl, -, -⟩ := hvz'
      have HBZ := Lib.hid (below_next HB5.out hbz)
      have HVZ := Lib.hid hvz
      clear hbz hvz
      obtain ⟨Z, hZ⟩ : ∃ Z, Z = w105.alloc (.cells #[.bool (frS q5), .slice A7 l7.length c7, .slice A8 l8.length c8] 39) := ⟨_, rfl⟩
      have hbz : Below w105.heap.size w105 Z := by rw [hZ]; exact (Below.refl _ w105).alloc (Nat.le_refl _) _
      have HSZ2 := Lib.hid (show St w105 Z [(w105.heap.size, .cells #[.bool (frS q5), .slice A7 l7.length c7, .slice A8 l8.length c8] 39 (0, 0))] by rw [hZ]; exact (St.start w105).alloc _ _ rfl)
      have HBZ2 := Lib.hid (below_next HBZ.out hbz)
      have HZV := Lib.hid (fun X (h : Below Z.heap.size Z X) => HVZ.out.on (HSZ2.out.call h).below)
      have HZW := Lib.hid (fun X (h : Below Z.heap.size Z X) => below_next HBZ2.out h)
      have HKS := Lib.hid (show ∀ X, Below Z.heap.size Z X → (fun X => Below Z.heap.size Z X ∧ X.cell? ⟨w3.heap.size, 0, none⟩ = some (.bool (frS qa)) ∧ X.cell? ⟨w3.heap.size, 1, none⟩ = some (.slice A1 l1.length c1) ∧ X.cell? ⟨w3.heap.size, 2, none⟩ = some (.slice A2 l2.length c2) ∧ X.cell? ⟨w4.heap.size, 0, none⟩ = some (.bool (frS qb)) ∧ X.cell? ⟨w4.heap.size, 1, none⟩ = some (.slice A3 l3.length c3) ∧ X.cell? ⟨w4.heap.size, 2, none⟩ = some (.slice A4 l4.length c4) ∧ X.cell? ⟨w105.heap.size, 0, none⟩ = some (.bool (frS q5)) ∧ X.cell? ⟨w105.heap.size, 1, none⟩ = some (.slice A7 l7.length c7) ∧ X.cell? ⟨w105.heap.size, 2, none⟩ = some (.slice A8 l8.length c8)) X from fun X h => ⟨h, (HCX.out X (HZW.out X h)).cell 0 0 rfl rfl, (HCX.out X (HZW.out X h)).cell 0 1 rfl rfl, (HCX.out X (HZW.out X h)).cell 0 2 rfl rfl, (HCX.out X (HZW.out X h)).cell 1 0 rfl rfl, (HCX.out X (HZW.out X h)).cell 1 1 rfl rfl, (HCX.out X (HZW.out X h)).cell 1 2 rfl rfl, (HSZ2.out.call h).cell 0 0 rfl rfl, (HSZ2.out.call h).cell 0 1 rfl rfl, (HSZ2.out.call h).cell 0 2 rfl rfl⟩)
      clear hbz
      go_upto_region 10 with fail
      rw [← hZ]
      clear hZ
      obtain ⟨-, f0, f1, f2, f3, f4, f5, f6, f7, f8⟩ := HKS.out Z (Below.refl _ Z)
      go_region_held3 (fun X => Below Z.heap.size Z X ∧ X.cell? ⟨w3.heap.size, 0, none⟩ = some (.bool (frS qa)) ∧ X.cell? ⟨w3.heap.size, 1, none⟩ = some (.slice A1 l1.length c1) ∧ X.cell? ⟨w3.heap.size, 2, none⟩ = some (.slice A2 l2.length c2) ∧ X.cell? ⟨w4.heap.size, 0, none⟩ = some (.bool (frS qb)) ∧ X.cell? ⟨w4.heap.size, 1, none⟩ = some (.slice A3 l3.length c3) ∧ X.cell? ⟨w4.heap.size, 2, none⟩ = some (.slice A4 l4.length c4) ∧ X.cell? ⟨w105.heap.size, 0, none⟩ = some (.bool (frS q5)) ∧ X.cell? ⟨w105.heap.size, 1, none⟩ = some (.slice A7 l7.length c7) ∧ X.cell? ⟨w105.heap.size, 2, none⟩ = some (.slice A8 l8.length c8))
        (first
          | exact HKS.out _ (Below.refl _ Z).drew
          | (go_split_ands; refine HKS.out _ (below_next ?_ hb10); assumption)
          | (go_split_ands; refine HKS.out _ (below_next ?_ hb11); assumption)
          | (go_split_ands; refine HKS.out _ (below_next ?_ hb12); assumption))
        (first
          | (go_at_call 23; (with_reducible refine (HPL.out _ ?_).mono ?_); (exact HZW.out _ (by go_split_ands; assumption)); rintro e w10 ⟨v10, rfl, hv10, hb10⟩)
          | (go_at_call 22; (with_reducible refine (HORZ.out _ _ v10 ?_ hv10).mono ?_); (exact HZV.out _ (by go_split_ands; assumption)); rintro e w11 ⟨rfl, hb11⟩))
      have HBL := Lib.hid (show Below Z.heap.size Z w11 by go_split_ands; assumption)
      clear hb10 hb11 hv10
      go_wp2_with fail
      go_meet
      case rel => exact HZW.out _ HBL.out
    · have t1 : (E5 == 0) = false := by simpa using hc
      go_wp2_with fail
      go_meet
      case rel => exact HB5.out
  case rest =>
    have HBC6 := Lib.hid (show Below W4.heap.size W4 wc from hcut)
    clear hcut
    go_wp2_with fail
    (with_reducible refine (HSR.out _ (HTOT.out _ HBC6.out)).mono ?_)
    rintro e w6 ⟨A6, c6, rfl, hr5, hb5⟩
    have HB6 := Lib.hid (below_next HBC6.out hb5)
    have HR6 := Lib.hid hr5
    clear hb5 hr5
    obtain ⟨E6, hE5⟩ : ∃ E, E = chgC k a (a.map (strS k)) := ⟨_, rfl⟩
    obtain ⟨L6, hL5⟩ : ∃ L, L = chgL k a (a.map (strS k)) := ⟨_, rfl⟩
    rw [← hL5] at HR6 ⊢
    rw [← hE5]
    have HE6 := Lib.hid hE5
    have HL6 := Lib.hid hL5
    clear hE5 hL5
    go_upto_if 88 with fail
    go_cut [19, 20] from 33 (fun _ _ wx => Below W4.heap.size W4 wx)
    case first =>
      by_cases hc : E6 = 0
      · have t1 : (E6 == 0) = true := by simpa using hc
        obtain ⟨k1, k2, ok, hL⟩ := chgK_ok (HE6.out.symm.trans hc)
        have hLe : L6 = a.map (strS k) := HL6.out.trans hL
        obtain ⟨q6, hz⟩ : ∃ q, q = qa * (k : Rat) := ⟨_, rfl⟩
        have hwh : whA L6 = q6 := by rw [hLe, hz, HQA.out]; exact whA_str k1 HOK.out.1.ok
        have hsk : Sz 20 (k : Rat) := sz_int (by omega) (Nat.lt_of_lt_of_le (show k.natAbs < 100000 by omega) (by unfold T4; decide))
        have hsz : Sz 100 q6 := by rw [hz]; exact sz_mono (sz_mul HSZ.out.1 hsk) (by omega)
        have HTK := Lib.hid (fun X v h hv => HTI.out X v (k : Rat) h hv hsk)
        rw [← hz] at HTK
        have HWH := Lib.hid (fun X => rWhole_any k X (by omega) (by omega))
        have hoL : OkL L6 := by rw [hLe]; exact ok
        have HAR := Lib.hid (HAX.out w6 A6 c6 L6 (HTOT.out _ HB6.out) HR6.out hoL)
        rw [hwh] at HAR
        have HORZ := Lib.hid (fun X u v (hu : FracR X u q6) (hv : FracR X v q6) => HORD.out X u v q6 hu hv hsz)
        clear hz hwh hLe hL ok hoL hc hsk
        go_wp2_with fail
        (with_reducible refine HAR.out.mono ?_)
        rintro e w106 ⟨vz, rfl, hvz, hbz⟩
        have hvz' := hvz
        obtain ⟨A7, c7, l7, A8, c8, l8, rfl, -, -⟩ := hvz'
        have HBZ := Lib.hid (below_next HB6.out hbz)
        have HVZ := Lib.hid hvz
        clear hbz hvz
        obtain ⟨Z, hZ⟩ : ∃ Z, Z = w106.alloc (.cells #[.bool (frS q6), .slice A7 l7.length c7, .slice A8 l8.length c8] 39) := ⟨_, rfl⟩
        have hbz : Below w106.heap.size w106 Z := by rw [hZ]; exact (Below.refl _ w106).alloc (Nat.le_refl _) _
        have HSZ2 := Lib.hid (show St w106 Z [(w106.heap.size, .cells #[.bool (frS q6), .slice A7 l7.length c7, .slice A8 l8.length c8] 39 (0, 0))] by rw [hZ]; exact (St.start w106).alloc _ _ rfl)
        have HBZ2 := Lib.hid (below_next HBZ.out hbz)
        have HZV := Lib.hid (fun X (h : Below Z.heap.size Z X) => HVZ.out.on (HSZ2.out.call h).below)
        have HZW := Lib.hid (fun X (h : Below Z.heap.size Z X) => below_next HBZ2.out h)
        have HKS := Lib.hid (show ∀ X, Below Z.heap.size Z X → (fun X => Below Z.heap.size Z X ∧ X.cell? ⟨w3.heap.size, 0, none⟩ = some (.bool (frS qa)) ∧ X.cell? ⟨w3.heap.size, 1, none⟩ = some (.slice A1 l1.length c1) ∧ X.cell? ⟨w3.heap.size, 2, none⟩ = some (.slice A2 l2.length c2) ∧ X.cell? ⟨w106.heap.size, 0, none⟩ = some (.bool (frS q6)) ∧ X.cell? ⟨w106.heap.size, 1, none⟩ = some (.slice A7 l7.length c7) ∧ X.cell? ⟨w106.heap.size, 2, none⟩ = some (.slice A8 l8.length c8)) X from fun X h => ⟨h, (HCX.out X (HZW.out X h)).cell 0 0 rfl rfl, (HCX.out X (HZW.out X h)).cell 0 1 rfl rfl, (HCX.out X (HZW.out X h)).cell 0 2 rfl rfl, (HSZ2.out.call h).cell 0 0 rfl rfl, (HSZ2.out.call h).cell 0 1 rfl rfl, (HSZ2.out.call h).cell 0 2 rfl rfl⟩)
        clear hbz
        go_upto_region 15 with fail
        rw [← hZ]
        clear hZ
        obtain ⟨-, f0, f1, f2, f3, f4, f5⟩ := HKS.out Z (Below.refl _ Z)
        go_region_held3 (fun X => Below Z.heap.size Z X ∧ X.cell? ⟨w3.heap.size, 0, none⟩ = some (.bool (frS qa)) ∧ X.cell? ⟨w3.heap.size, 1, none⟩ = some (.slice A1 l1.length c1) ∧ X.cell? ⟨w3.heap.size, 2, none⟩ = some (.slice A2 l2.length c2) ∧ X.cell? ⟨w106.heap.size, 0, none⟩ = some (.bool (frS q6)) ∧ X.cell? ⟨w106.heap.size, 1, none⟩ = some (.slice A7 l7.length c7) ∧ X.cell? ⟨w106.heap.size, 2, none⟩ = some (.slice A8 l8.length c8))
          (first
            | exact HKS.out _ (Below.refl _ Z).drew
            | (go_split_ands; refine HKS.out _ (below_next ?_ hb10); assumption)
            | (go_split_ands; refine HKS.out _ (below_next ?_ hb11); assumption)
            | (go_split_ands; refine HKS.out _ (below_next ?_ hb12); assumption))
          (first
            | (go_at_call 26; (with_reducible refine (HWH.out _).mono ?_); rintro e w10 ⟨v10, rfl, hv10, hb10⟩)
            | (go_at_call 25; (with_reducible refine (HTK.out _ v10 ?_ hv10).mono ?_); (exact HZW.out _ (by go_split_ands; assumption)); rintro e w11 ⟨v11, rfl, hv11, hb11⟩)
            | (go_at_call 22; (with_reducible refine (HORZ.out _ _ v11 ?_ hv11).mono ?_); (exact HZV.out _ (by go_split_ands; assumption)); rintro e w12 ⟨rfl, hb12⟩))
        have HBL := Lib.hid (show Below Z.heap.size Z w12 by go_split_ands; assumption)
        clear hb10 hb11 hb12 hv10 hv11
        go_wp2_with fail
        go_meet
        case rel => exact HZW.out _ HBL.out
      · have t1 : (E6 == 0) = false := by simpa using hc
        go_wp2_with fail
        go_meet
        case rel => exact HB6.out
    case rest =>
      have HBC7 := Lib.hid (show Below W4.heap.size W4 wc from hcut)
      clear hcut
      go_wp2_with fail
      (with_reducible refine (HTM.out _ (HTOT.out _ HBC7.out)).mono ?_)
      rintro e w7 ⟨A7, c7, rfl, hr5, hb5⟩
      have HB7 := Lib.hid (below_next HBC7.out hb5)
      have HR7 := Lib.hid hr5
      clear hb5 hr5
      obtain ⟨E7, hE5⟩ : ∃ E, E = chgC k a (a.map (timS k)) := ⟨_, rfl⟩
      obtain ⟨L7, hL5⟩ : ∃ L, L = chgL k a (a.map (timS k)) := ⟨_, rfl⟩
      rw [← hL5] at HR7 ⊢
      rw [← hE5]
      have HE7 := Lib.hid hE5
      have HL7 := Lib.hid hL5
      clear hE5 hL5
      go_upto_if 112 with fail
      go_cut [23, 24] from 33 (fun _ _ wx => Below W4.heap.size W4 wx)
      case first =>
        by_cases hc : E7 = 0
        · have t1 : (E7 == 0) = true := by simpa using hc
          obtain ⟨k1, k2, ok, hL⟩ := chgK_ok (HE7.out.symm.trans hc)
          have hLe : L7 = a.map (timS k) := HL7.out.trans hL
          obtain ⟨q7, hz⟩ : ∃ q, q = qa * (k : Rat) := ⟨_, rfl⟩
          have hwh : whA L7 = q7 := by rw [hLe, hz, HQA.out]; exact whA_tim HOK.out.1.ok
          have hsk : Sz 20 (k : Rat) := sz_int (by omega) (Nat.lt_of_lt_of_le (show k.natAbs < 100000 by omega) (by unfold T4; decide))
          have hsz : Sz 100 q7 := by rw [hz]; exact sz_mono (sz_mul HSZ.out.1 hsk) (by omega)
          have HTK := Lib.hid (fun X v h hv => HTI.out X v (k : Rat) h hv hsk)
          rw [← hz] at HTK
          have HWH := Lib.hid (fun X => rWhole_any k X (by omega) (by omega))
          have hoL : OkL L7 := by rw [hLe]; exact ok
          have HAR := Lib.hid (HAX.out w7 A7 c7 L7 (HTOT.out _ HB7.out) HR7.out hoL)
          rw [hwh] at HAR
          have HORZ := Lib.hid (fun X u v (hu : FracR X u q7) (hv : FracR X v q7) => HORD.out X u v q7 hu hv hsz)
          clear hz hwh hLe hL ok hoL hc hsk
          go_wp2_with fail
          (with_reducible refine HAR.out.mono ?_)
          rintro e w107 ⟨vz, rfl, hvz, hbz⟩
          have hvz' := hvz
          obtain ⟨A7, c7, l7, A8, c8, l8, rfl, -, -⟩ := hvz'
          have HBZ := Lib.hid (below_next HB7.out hbz)
          have HVZ := Lib.hid hvz
          clear hbz hvz
          obtain ⟨Z, hZ⟩ : ∃ Z, Z = w107.alloc (.cells #[.bool (frS q7), .slice A7 l7.length c7, .slice A8 l8.length c8] 39) := ⟨_, rfl⟩
          have hbz : Below w107.heap.size w107 Z := by rw [hZ]; exact (Below.refl _ w107).alloc (Nat.le_refl _) _
          have HSZ2 := Lib.hid (show St w107 Z [(w107.heap.size, .cells #[.bool (frS q7), .slice A7 l7.length c7, .slice A8 l8.length c8] 39 (0, 0))] by rw [hZ]; exact (St.start w107).alloc _ _ rfl)
          have HBZ2 := Lib.hid (below_next HBZ.out hbz)
          have HZV := Lib.hid (fun X (h : Below Z.heap.size Z X) => HVZ.out.on (HSZ2.out.call h).below)
          have HZW := Lib.hid (fun X (h : Below Z.heap.size Z X) => below_next HBZ2.out h)
          have HKS := Lib.hid (show ∀ X, Below Z.heap.size Z X → (fun X => Below Z.heap.size Z X ∧ X.cell? ⟨w3.heap.size, 0, none⟩ = some (.bool (frS qa)) ∧ X.cell? ⟨w3.heap.size, 1, none⟩ = some (.slice A1 l1.length c1) ∧ X.cell? ⟨w3.heap.size, 2, none⟩ = some (.slice A2 l2.length c2) ∧ X.cell? ⟨w107.heap.size, 0, none⟩ = some (.bool (frS q7)) ∧ X.cell? ⟨w107.heap.size, 1, none⟩ = some (.slice A7 l7.length c7) ∧ X.cell? ⟨w107.heap.size, 2, none⟩ = some (.slice A8 l8.length c8)) X from fun X h => ⟨h, (HCX.out X (HZW.out X h)).cell 0 0 rfl rfl, (HCX.out X (HZW.out X h)).cell 0 1 rfl rfl, (HCX.out X (HZW.out X h)).cell 0 2 rfl rfl, (HSZ2.out.call h).cell 0 0 rfl rfl, (HSZ2.out.call h).cell 0 1 rfl rfl, (HSZ2.out.call h).cell 0 2 rfl rfl⟩)
          clear hbz
          go_upto_region 20 with fail
          rw [← hZ]
          clear hZ
          obtain ⟨-, f0, f1, f2, f3, f4, f5⟩ := HKS.out Z (Below.refl _ Z)
          go_region_held3 (fun X => Below Z.heap.size Z X ∧ X.cell? ⟨w3.heap.size, 0, none⟩ = some (.bool (frS qa)) ∧ X.cell? ⟨w3.heap.size, 1, none⟩ = some (.slice A1 l1.length c1) ∧ X.cell? ⟨w3.heap.size, 2, none⟩ = some (.slice A2 l2.length c2) ∧ X.cell? ⟨w107.heap.size, 0, none⟩ = some (.bool (frS q7)) ∧ X.cell? ⟨w107.heap.size, 1, none⟩ = some (.slice A7 l7.length c7) ∧ X.cell? ⟨w107.heap.size, 2, none⟩ = some (.slice A8 l8.length c8))
            (first
              | exact HKS.out _ (Below.refl _ Z).drew
              | (go_split_ands; refine HKS.out _ (below_next ?_ hb10); assumption)
              | (go_split_ands; refine HKS.out _ (below_next ?_ hb11); assumption)
              | (go_split_ands; refine HKS.out _ (below_next ?_ hb12); assumption))
            (first
              | (go_at_call 26; (with_reducible refine (HWH.out _).mono ?_); rintro e w10 ⟨v10, rfl, hv10, hb10⟩)
              | (go_at_call 25; (with_reducible refine (HTK.out _ v10 ?_ hv10).mono ?_); (exact HZW.out _ (by go_split_ands; assumption)); rintro e w11 ⟨v11, rfl, hv11, hb11⟩)
              | (go_at_call 22; (with_reducible refine (HORZ.out _ _ v11 ?_ hv11).mono ?_); (exact HZV.out _ (by go_split_ands; assumption)); rintro e w12 ⟨rfl, hb12⟩))
          have HBL := Lib.hid (show Below Z.heap.size Z w12 by go_split_ands; assumption)
          clear hb10 hb11 hb12 hv10 hv11
          go_wp2_with fail
          go_meet
          case rel => exact HZW.out _ HBL.out
        · have t1 : (E7 == 0) = false := by simpa using hc
          go_wp2_with fail
          go_meet
          case rel => exact HB7.out
      case rest =>
        have HBC8 := Lib.hid (show Below W4.heap.size W4 wc from hcut)
        clear hcut
        go_wp2_with fail
        (with_reducible refine (HRV.out _ (HTOT.out _ HBC8.out)).mono ?_)
        rintro e w8 ⟨A9, c9, rfl, hr5, hb5⟩
        obtain ⟨okr, hre, hrl⟩ := rev_ok HCD.out.1
        have hrl2 := okr.le
        have HB8 := Lib.hid (below_next HBC8.out hb5)
        have HLC := Lib.hid (fun (W : World) (h : Below w8.heap.size w8 W) (ht2 : n - t ≤ 9223372036854775807) => lArea_any A9 c9 (revL a) (n - t) W (hr5.old h) (by omega) ht2 (HTB.out W (HTOT.out W (below_next HB8.out h))))
        have HRC := Lib.hid (fun (W : World) (h : Below w8.heap.size w8 W) (ht2 : n - t ≤ 9223372036854775807) => r7AreaP_any A9 c9 (revL a) (n - t) W (hr5.old h) (by omega) ht2 (HTB.out W (HTOT.out W (below_next HB8.out h))))
        have HOR := Lib.hid (And.intro okr (And.intro hre hrl))
        clear hb5 hr5 okr hre hrl hrl2
        go_wp2_with fail
        (with_reducible refine (HLN.out _ (HTOT.out _ HB8.out)).mono ?_)
        rintro e w9 ⟨rfl, hb9⟩
        have HB89 := Lib.hid hb9
        have HB9 := Lib.hid (below_next HB8.out hb9)
        clear hb9
        by_cases h0 : 0 ≤ t ∧ t ≤ n
        · obtain ⟨h00, h01⟩ := h0
          have t1 : decide (0 ≤ t) = true := decide_eq_true h00
          have t2 : decide (t ≤ n) = true := decide_eq_true h01
          have hTp := areaT HOK.out.1 (t := t) h00 (by rw [← HN.out]; exact h01)
          have hTq := areaT HOR.out.1 (t := n - t) (by omega) (by rw [HOR.out.2.2, ← HN.out]; omega)
          have hsum : arQ a t + arQ (revL a) (n - t) = qa := by rw [HOR.out.2.1, HQA.out, HN.out]; exact arQ_rev HOK.out.1.ok h00 (by rw [← HN.out]; exact h01)
          have hgp : rngC a t = 0 := rngC_ok HCD.out.1 h00 (by rw [← HN.out]; exact h01)
          have hgq : rngC (revL a) (n - t) = 0 := rngC_ok HOR.out.1.code (by omega) (by rw [HOR.out.2.2, ← HN.out]; omega)
          have hw1 : n - t ≤ 9223372036854775807 := by omega
          have hw2 : 0 ≤ n - t := by omega
          have HLC' := Lib.hid (fun W h => HLC.out W h hw1)
          have HRC' := Lib.hid (fun W h => HRC.out W h hw1)
          rw [hgp] at HLA HRA
          rw [hgq] at HLC' HRC'
          unfold ratOf at HLA HRA HLC' HRC'
          have HFP := Lib.hid (fun W => rFromRat_any (areaP a t).1 (areaP a t).2 W (by have := hTp.l1; omega) (by have := hTp.l2; omega) (by have := hTp.l1; omega) hTp.d1 hTp.d2 hTp.pos)
          have HFQ := Lib.hid (fun W => rFromRat_any (areaP (revL a) (n - t)).1 (areaP (revL a) (n - t)).2 W (by have := hTq.l1; omega) (by have := hTq.l2; omega) (by have := hTq.l1; omega) hTq.d1 hTq.d2 hTq.pos)
          rw [hTp.val] at HFP
          rw [hTq.val] at HFQ
          have HPQ := Lib.hid (fun X u v (hu : FracR X u (arQ a t)) (hv : FracR X v (arQ (revL a) (n - t))) => rPlus_any 20 u v _ _ X (by omega) hu hv hTp.sz hTq.sz)
          rw [hsum] at HPQ
          have HTP := Lib.hid (fun W (h : Below W4.heap.size W4 W) => toldRat_any (areaP a t).1 (areaP a t).2 0 W (HTB.out W (HTOT.out W h)) (by have := hTp.l1; omega) (by have := hTp.l2; omega) (by unfold I64; omega))
          have HTQ := Lib.hid (fun W (h : Below W4.heap.size W4 W) => toldRat_any (areaP (revL a) (n - t)).1 (areaP (revL a) (n - t)).2 0 W (HTB.out W (HTOT.out W h)) (by have := hTq.l1; omega) (by have := hTq.l2; omega) (by unfold I64; omega))
          obtain ⟨qp, hqp⟩ : ∃ q, q = arQ a t := ⟨_, rfl⟩
          obtain ⟨qq, hqq⟩ : ∃ q, q = arQ (revL a) (n - t) := ⟨_, rfl⟩
          rw [← hqp] at HFP HPQ
          rw [← hqq] at HFQ HPQ
          obtain ⟨s1, hs1⟩ : ∃ s : ByteArray, s = ⟨(tellRat (areaP a t).1 (areaP a t).2 0).toArray⟩ := ⟨_, rfl⟩
          obtain ⟨s2, hs2⟩ : ∃ s : ByteArray, s = ⟨(tellRat (areaP (revL a) (n - t)).1 (areaP (revL a) (n - t)).2 0).toArray⟩ := ⟨_, rfl⟩
          rw [← hs1] at HTP
          rw [← hs2] at HTQ
          obtain ⟨p1, hp1⟩ : ∃ s : ByteArray, s = ⟨(areaP a t).1.toArray⟩ := ⟨_, rfl⟩
          obtain ⟨p2, hp2⟩ : ∃ s : ByteArray, s = ⟨(areaP a t).2.toArray⟩ := ⟨_, rfl⟩
          obtain ⟨r1, hr1⟩ : ∃ s : ByteArray, s = ⟨(areaP (revL a) (n - t)).1.toArray⟩ := ⟨_, rfl⟩
          obtain ⟨r2, hr2⟩ : ∃ s : ByteArray, s = ⟨(areaP (revL a) (n - t)).2.toArray⟩ := ⟨_, rfl⟩
          rw [← hp1, ← hp2] at HTP HFP HLA HRA
          rw [← hr1, ← hr2] at HTQ HFQ HLC' HRC'
          clear hTp hTq hsum hgp hgq hqp hqq hs1 hs2 hp1 hp2 hr1 hr2 HLC HRC
          go_wp2_with fail
          (with_reducible refine (HLA.out _ (HTOT.out _ HB9.out)).mono ?_)
          rintro e w10 ⟨rfl, hb10⟩
          have HB10 := Lib.hid (below_next HB9.out hb10)
          have HB8a := Lib.hid (below_next HB89.out hb10)
          clear hb10
          obtain ⟨P, hP⟩ : ∃ P, P = w10.alloc (.cells #[.string p1, .string p2] 31) := ⟨_, rfl⟩
          have hbP : Below w10.heap.size w10 P := by rw [hP]; exact (Below.refl _ w10).alloc (Nat.le_refl _) _
          have HSP := Lib.hid (show St w10 P [(w10.heap.size, .cells #[.string p1, .string p2] 31 (0, 0))] by rw [hP]; exact (St.start w10).alloc _ _ rfl)
          have HBP := Lib.hid (below_next HB10.out hbP)
          have HB8b := Lib.hid (below_next HB8a.out hbP)
          clear hbP
          go_wp2_with fail
          rw [← hP]
          clear hP
          (with_reducible refine (HLC'.out _ HB8b.out).mono ?_)
          rintro e w11 ⟨rfl, hb11⟩
          have HB11 := Lib.hid (below_next HBP.out hb11)
          have HB8c := Lib.hid (below_next HB8b.out hb11)
          have HSP1 := Lib.hid (HSP.out.call hb11)
          have hltP := HSP1.out.lt 0 rfl
          clear hb11
          obtain ⟨Q, hQ⟩ : ∃ Q, Q = w11.alloc (.cells #[.string r1, .string r2] 31) := ⟨_, rfl⟩
          have hbQ : Below w11.heap.size w11 Q := by rw [hQ]; exact (Below.refl _ w11).alloc (Nat.le_refl _) _
          have HSQ := Lib.hid (show St w10 Q [(w10.heap.size, .cells #[.string p1, .string p2] 31 (0, 0)), (w11.heap.size, .cells #[.string r1, .string r2] 31 (0, 0))] by rw [hQ]; exact HSP1.out.alloc _ _ rfl)
          have HBQ := Lib.hid (below_next HB11.out hbQ)
          have HB8d := Lib.hid (below_next HB8c.out hbQ)
          have e0 := HSQ.out.cell 0 0 rfl rfl
          have e1 := HSQ.out.cell 0 1 rfl rfl
          have e2 := HSQ.out.cell 1 0 rfl rfl
          have e3 := HSQ.out.cell 1 1 rfl rfl
          clear hbQ
          go_wp2_with fail
          rw [← hQ]
          clear hQ
          (with_reducible refine (HTQ.out _ HBQ.out).mono ?_)
          rintro e w12 ⟨rfl, hb12⟩
          have HB12 := Lib.hid (below_next HBQ.out hb12)
          have HB8e := Lib.hid (below_next HB8d.out hb12)
          have HS12 := Lib.hid (HSQ.out.call hb12)
          clear hb12 e0 e1 e2 e3
          go_wp2_with fail
          (with_reducible refine (HRC'.out _ HB8e.out).mono ?_)
          rintro e w13 ⟨rfl, hb13⟩
          have HB13 := Lib.hid (below_next HB12.out hb13)
          have HS13 := Lib.hid (HS12.out.call hb13)
          clear hb13
          go_wp2_with fail
          (with_reducible refine (HTQ.out _ HB13.out).mono ?_)
          rintro e w14 ⟨rfl, hb14⟩
          have HB14 := Lib.hid (below_next HB13.out hb14)
          have HS14 := Lib.hid (HS13.out.call hb14)
          have e0 := HS14.out.cell 0 0 rfl rfl
          have e1 := HS14.out.cell 0 1 rfl rfl
          clear hb14
          go_wp2_with fail
          (with_reducible refine (HTP.out _ HB14.out).mono ?_)
          rintro e w15 ⟨rfl, hb15⟩
          have HB15 := Lib.hid (below_next HB14.out hb15)
          have HS15 := Lib.hid (HS14.out.call hb15)
          clear hb15 e0 e1
          go_wp2_with fail
          (with_reducible refine (HRA.out _ (HTOT.out _ HB15.out)).mono ?_)
          rintro e w16 ⟨rfl, hb16⟩
          have HB16 := Lib.hid (below_next HB15.out hb16)
          have HS16 := Lib.hid (HS15.out.call hb16)
          clear hb16
          go_wp2_with fail
          (with_reducible refine (HTP.out _ HB16.out).mono ?_)
          rintro e w17 ⟨rfl, hb17⟩
          have HB17 := Lib.hid (below_next HB16.out hb17)
          have HS17 := Lib.hid (HS16.out.call hb17)
          clear hb17
          have HKS := Lib.hid (show ∀ X, Below w17.heap.size w17 X → (fun X => Below w17.heap.size w17 X ∧ X.cell? ⟨w3.heap.size, 0, none⟩ = some (.bool (frS qa)) ∧ X.cell? ⟨w3.heap.size, 1, none⟩ = some (.slice A1 l1.length c1) ∧ X.cell? ⟨w3.heap.size, 2, none⟩ = some (.slice A2 l2.length c2) ∧ X.cell? ⟨w10.heap.size, 0, none⟩ = some (.string p1) ∧ X.cell? ⟨w10.heap.size, 1, none⟩ = some (.string p2) ∧ X.cell? ⟨w11.heap.size, 0, none⟩ = some (.string r1) ∧ X.cell? ⟨w11.heap.size, 1, none⟩ = some (.string r2)) X from fun X h => ⟨h, (HCX.out X (below_next HB17.out h)).cell 0 0 rfl rfl, (HCX.out X (below_next HB17.out h)).cell 0 1 rfl rfl, (HCX.out X (below_next HB17.out h)).cell 0 2 rfl rfl, (HS17.out.call h).cell 0 0 rfl rfl, (HS17.out.call h).cell 0 1 rfl rfl, (HS17.out.call h).cell 1 0 rfl rfl, (HS17.out.call h).cell 1 1 rfl rfl⟩)
          go_upto_region 31 with fail
          obtain ⟨-, f0, f1, f2, f3, f4, f5, f6⟩ := HKS.out w17 (Below.refl _ w17)
          go_region_held3 (fun X => Below w17.heap.size w17 X ∧ X.cell? ⟨w3.heap.size, 0, none⟩ = some (.bool (frS qa)) ∧ X.cell? ⟨w3.heap.size, 1, none⟩ = some (.slice A1 l1.length c1) ∧ X.cell? ⟨w3.heap.size, 2, none⟩ = some (.slice A2 l2.length c2) ∧ X.cell? ⟨w10.heap.size, 0, none⟩ = some (.string p1) ∧ X.cell? ⟨w10.heap.size, 1, none⟩ = some (.string p2) ∧ X.cell? ⟨w11.heap.size, 0, none⟩ = some (.string r1) ∧ X.cell? ⟨w11.heap.size, 1, none⟩ = some (.string r2))
            (first
              | exact HKS.out _ (Below.refl _ w17).drew
              | (go_split_ands; refine HKS.out _ (below_next ?_ hb20); assumption)
              | (go_split_ands; refine HKS.out _ (below_next ?_ hb21); assumption)
              | (go_split_ands; refine HKS.out _ (below_next ?_ hb22); assumption)
              | (go_split_ands; refine HKS.out _ (below_next ?_ hb23); assumption))
            (first
              | (go_at_call 29; (with_reducible refine (HFP.out _).mono ?_); rintro e w20 ⟨v20, rfl, hv20, hb20⟩)
              | (go_at_call 29; (with_reducible refine (HFQ.out _).mono ?_); rintro e w21 ⟨v21, rfl, hv21, hb21⟩)
              | (go_at_call 23; (with_reducible refine (HPQ.out _ v20 v21 (hv20.on hb21) hv21).mono ?_); rintro e w22 ⟨v22, rfl, hv22, hb22⟩)
              | (go_at_call 22; (with_reducible refine (HORX.out _ v22 ?_ hv22).mono ?_); (exact below_next HB17.out (by go_split_ands; assumption)); rintro e w23 ⟨rfl, hb23⟩))
          have HBL := Lib.hid (show Below w17.heap.size w17 w23 by go_split_ands; assumption)
          clear hb20 hb21 hb22 hb23 hv20 hv21 hv22
          go_wp2_with fail
          (with_reducible refine (HEV.out _).mono ?_)
          rintro e w30 ⟨rfl, hb30⟩
          have HB30 := Lib.hid (below_next (below_next HB17.out HBL.out) hb30)
          clear hb30
          go_wp2
          go_ret
          exact ⟨rfl, HTOT.out _ HB30.out⟩
        · have hge : 0 ≤ t → ¬ t ≤ n := fun h1 h2 => h0 ⟨h1, h2⟩
          by_cases h00 : 0 ≤ t
          · have t1 : decide (0 ≤ t) = true := decide_eq_true h00
            have t2 : decide (t ≤ n) = false := decide_eq_false (hge h00)
            clear hge h0
            go_wp2_with fail
            (with_reducible refine (HEV.out _).mono ?_)
            rintro e w30 ⟨rfl, hb30⟩
            have HB30 := Lib.hid (below_next HB9.out hb30)
            clear hb30
            go_wp2
            go_ret
            exact ⟨rfl, HTOT.out _ HB30.out⟩
          · have t1 : decide (0 ≤ t) = false := decide_eq_false h00
            clear hge h0
            go_wp2_with fail
            (with_reducible refine (HEV.out _).mono ?_)
            rintro e w30 ⟨rfl, hb30⟩
            have HB30 := Lib.hid (below_next HB9.out hb30)
            clear hb30
            go_wp2
            go_ret
            exact ⟨rfl, HTOT.out _ HB30.out⟩

set_option maxHeartbeats 4000000 in
set_option maxRecDepth 100000 in
theorem lawKeep_any (A B : Option Addr) (c d : Nat) (a b : List (Int × Int × Int)) (k t : Int) (w : World) (ht : Tab w.heap.size w) (ha : Rd w 0 w.heap.size 3 A a.length (cells3 a)) (hb : Rd w 0 w.heap.size 3 B b.length (cells3 b)) (hal : a.length ≤ 9223372036854775807) (hbl : b.length ≤ 9223372036854775807) (ht1 : t ≤ 9223372036854775807) :
    Calls Tryz.prog 4 #[.slice A a.length c, .slice B b.length d, .int .i64 k, .int .i64 t] w fun e w' => e = .returned (.bool true) ∧ Below w.heap.size w w' := by
  by_cases hca : codeS a = 0
  · by_cases hcb : codeS b = 0
    · exact keep_ok A B c d a b k t w ht ha hb hca hcb ht1
    · have HEV := Lib.hid (fun W => lawEven_any W)
      have HCA := Lib.hid (r7Check_any A c a w ha hal)
      have HCB := Lib.hid (fun W (h : Below w.heap.size w W) => r7Check_any B d b W (hb.old h) hbl)
      rw [hca] at HCA
      obtain ⟨e1, he1⟩ : ∃ x, x = codeS b := ⟨_, rfl⟩
      rw [← he1] at HCB hcb
      have t1 : (e1 != 0) = true := by simpa using hcb
      clear hca ht ha hb he1
      go_enter Tryz.func4, Tryz.ntmps4
      go_wp2_with fail
      (with_reducible refine HCA.out.mono ?_)
      rintro e w1 ⟨rfl, hb1⟩
      have HB1 := Lib.hid hb1
      clear hb1
      go_wp2_with fail
      (with_reducible refine (HCB.out w1 HB1.out).mono ?_)
      rintro e w2 ⟨rfl, hb2⟩
      have HB2 := Lib.hid (below_next HB1.out hb2)
      clear hb2
      go_wp2_with fail
      (with_reducible refine (HEV.out _).mono ?_)
      rintro e w30 ⟨rfl, hb30⟩
      have HB30 := Lib.hid (below_next HB2.out hb30)
      clear hb30
      go_wp2
      go_ret
      exact ⟨rfl, HB30.out⟩
  · have HEV := Lib.hid (fun W => lawEven_any W)
    have HCA := Lib.hid (r7Check_any A c a w ha hal)
    obtain ⟨e1, he1⟩ : ∃ x, x = codeS a := ⟨_, rfl⟩
    rw [← he1] at HCA hca
    have t1 : (e1 != 0) = true := by simpa using hca
    clear ht ha hb he1
    go_enter Tryz.func4, Tryz.ntmps4
    go_wp2_with fail
    (with_reducible refine HCA.out.mono ?_)
    rintro e w1 ⟨rfl, hb1⟩
    have HB1 := Lib.hid hb1
    clear hb1
    go_wp2_with fail
    (with_reducible refine (HEV.out _).mono ?_)
    rintro e w30 ⟨rfl, hb30⟩
    have HB30 := Lib.hid (below_next HB1.out hb30)
    clear hb30
    go_wp2
    go_ret
    exact ⟨rfl, HB30.out⟩
end Go.Proofs.YtepfmoaihhonlaaGreatDoor
