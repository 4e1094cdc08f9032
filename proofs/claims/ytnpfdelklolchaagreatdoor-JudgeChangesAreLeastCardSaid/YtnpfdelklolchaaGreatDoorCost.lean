/- What a division costs, as the law adds it up. Printed by gen_cost.py. -/
import Derived.Test.YtnpfdelklolchaaGreatDoorG37
import Derived.Test.YtnpfdelklolchaaGreatDoorFracOps
import Derived.Test.YtnpfdelklolchaaGreatDoorFracPlus
import Derived.Test.YtnpfdelklolchaaGreatDoorRowD
namespace Go.Proofs.YtnpfdelklolchaaGreatDoor
open Go Go.RowKit Go.Proofs

set_option maxHeartbeats 8000000 in
set_option maxRecDepth 100000 in
theorem cost_any (A B : Option Addr) (c d : Nat) (l : List Int) (zs : List Nat) (pen : Int) (w : World) (hr : Rd w 0 w.heap.size 1 A l.length (ints l)) (hz : Rd w 0 w.heap.size 1 B zs.length (nInts zs)) (hl : l.length ≤ 7) (h0 : 0 < l.length) (hok : ∀ z ∈ l, -1000000 ≤ z ∧ z ≤ 1000000) (hp0 : 0 ≤ pen) (hp1 : pen ≤ 1000000000000000) (hv : Val 0 l.length zs) :
    Calls Tryz.prog 8 #[.slice A l.length c, .slice B zs.length d, .int .i64 pen] w fun e w' => FracPost (costR l pen.toNat 0 zs) w e w' ∧ Sz 200 (costR l pen.toNat 0 zs) := by
  have hzl := Val.length_le hv h0
  obtain ⟨T, hT⟩ : ∃ t, t = costR l pen.toNat 0 zs := ⟨_, rfl⟩
  have hpz : 0 ≤ pen * (zs.length : Int) ∧ pen * (zs.length : Int) ≤ 7000000000000000 := by
    refine ⟨Int.mul_nonneg hp0 (by omega), ?_⟩
    have h1 : pen * (zs.length : Int) ≤ 1000000000000000 * 7 := Int.mul_le_mul hp1 (by omega) (by omega) (by omega)
    omega
  have hst : ((pen * (zs.length : Int) : Int) : Rat) + rstR l zs 0 0 = T := by
    rw [hT, cost_split]
    unfold rstR
    rw [if_pos (Nat.zero_le _), List.drop_zero]
    have e1 : pen * (zs.length : Int) = ((pen.toNat * zs.length : Nat) : Int) := by rw [Int.natCast_mul, Int.toNat_of_nonneg hp0]
    rw [e1]
    rfl
  have hci0 : CI l zs 0 0 := .inl ⟨Nat.zero_le _, h0, hv⟩
  obtain ⟨pz, hpz0⟩ : ∃ z, z = pen * (zs.length : Int) := ⟨_, rfl⟩
  rw [← hpz0] at hpz hst
  have hwr : IntKind.i64.wrap (pen * (zs.length : Int)) = pz := by rw [← hpz0]; exact IntWalk.i64_in _ (by omega)
  have hsz0 : Sz 10 (pz : Rat) := sz_mono (sz_int (n := 5) (by omega) (t4_5 (by omega))) (by omega)
  rw [← hT]
  have HT := Lib.hid hst
  have HCI0 := Lib.hid hci0
  have HSZ0 := Lib.hid hsz0
  have HR := Lib.hid (fun W (hW : Below w.heap.size w W) => hr.old hW)
  have HZ := Lib.hid (fun W (hW : Below w.heap.size w W) => hz.old hW)
  have HOK := Lib.hid hok
  obtain ⟨W0, hW0⟩ : ∃ W0, W0 = w.alloc (.cells #[.bool false, .slice none 0 0, .slice none 0 0] 31) := ⟨_, rfl⟩
  have HX0 := Lib.hid (show FBox W0 w.heap.size by rw [hW0]; exact alloc_at _ _ _ rfl)
  have HB0 := Lib.hid (show Below w.heap.size w W0 by rw [hW0]; exact (Below.refl _ w).alloc (Nat.le_refl _) _)
  have HWH := Lib.hid (rWhole_any pz W0 (by omega) (by omega))
  clear hr hz hok hv hst hci0 hsz0 hpz0 hT hpz hp0 hp1
  go_enter Tryz.func8, Tryz.ntmps8
  go_wp2_with fail
  rw [← hW0]
  clear hW0
  (with_reducible refine (HWH.out).mono ?_)
  rintro e w1 ⟨v1, rfl, hv1, hb1⟩
  obtain ⟨b1, A1, c1, l1, A2, c2, l2, rfl⟩ := hv1.shape
  obtain ⟨W2, hW2⟩ : ∃ W, W = w1.alloc (.cells #[.bool b1, .slice A1 l1.length c1, .slice A2 l2.length c2] 31) := ⟨_, rfl⟩
  obtain ⟨bs, hbs⟩ : ∃ b, b = w1.heap.size := ⟨_, rfl⟩
  have HQ0 := Lib.hid (show VarQ W2 bs (pz : Rat) by rw [hW2, hbs]; exact VarQ.laid hv1)
  have hb12 : Below w1.heap.size w1 W2 := by rw [hW2]; exact (Below.refl _ w1).alloc (Nat.le_refl _) _
  have HX2 := Lib.hid (HX0.out.on (below_next hb1 hb12))
  have HB2 := Lib.hid (below_next HB0.out (below_next hb1 hb12))
  have HBS := Lib.hid (show w.heap.size < bs by rw [hbs]; exact heap_lt (HX0.out.on hb1))
  clear hv1 hb1 hb12 HWH hwr
  go_wp2
  rw [← hW2, ← hbs]
  clear hW2 hbs
  go_loopw [8, 9] (fun fv iv wr => ∃ (i f : Nat) (q : Rat), fv = .int .i64 (f : Int) ∧ iv = .int .i64 (i : Int) ∧ CI l zs i f ∧ q + rstR l zs i f = T ∧ Sz (10 + 23 * f) q ∧ VarQ wr bs q ∧ FBox wr w.heap.size ∧ Below w.heap.size w wr) (fun _ iv _ => zs.length + 1 - (intOf iv).toNat)
  case atStart => exact ⟨0, 0, _, rfl, rfl, HCI0.out, HT.out, HSZ0.out, HQ0.out, HX2.out, HB2.out⟩
  case round =>
    obtain ⟨i, f, q, rfl, rfl, hci, hq, hsz, hvq, hfb, hbw⟩ := hrel
    have HCI := Lib.hid hci
    have HQ := Lib.hid hq
    have HSZ := Lib.hid hsz
    have HVQ := Lib.hid hvq
    have HFB := Lib.hid hfb
    have HBW := Lib.hid hbw
    clear HQ0 HX2 HB2 HCI0 HT HSZ0 hci hq hsz hvq hfb hbw
    by_cases hi : i ≤ zs.length
    · obtain ⟨wi, rfl⟩ : ∃ W : World, W = wr := ⟨_, rfl⟩
      obtain ⟨hft, htl, hci1, hrst⟩ := ci_step HCI.out hi
      obtain ⟨t, ht⟩ : ∃ t, t = endN l zs i := ⟨_, rfl⟩
      rw [← ht] at hft htl hci1 hrst
      have HCI1 := Lib.hid hci1
      have HRST := Lib.hid hrst
      have HEND := Lib.hid ht
      have hiz : (i : Int) ≤ (zs.length : Int) := by omega
      clear hci1 hrst ht
      go_upto_if 31 with fail
      go_cut [10] (fun tv wc => tv = .int .i64 (t : Int) ∧ wc = wi)
      case first =>
        by_cases hi1 : i < zs.length
        · obtain ⟨b', o', u, rfl, hbB, hu, hcell⟩ := (HZ.out wi HBW.out).at1 hi1
          obtain ⟨k, hk⟩ : ∃ k, zs[i]? = some k := ⟨_, List.getElem?_eq_getElem hi1⟩
          obtain rfl : u = .int .i64 (k : Int) := by
            unfold nInts at hu
            rw [List.getElem?_map, hk] at hu
            exact (Option.some.inj hu).symm
          have e1 : t = k := by rw [HEND.out]; exact endN_at hk
          have hi1z : (i : Int) < (zs.length : Int) := by omega
          clear hu hk hbB
          go_wp2
          go_meet
          exact ⟨by rw [e1], rfl⟩
        · have e1 : t = l.length := by rw [HEND.out]; exact endN_last hi1
          have hi1z : ¬ (i : Int) < (zs.length : Int) := by omega
          go_wp2
          go_meet
          exact ⟨by rw [e1], rfl⟩
      case rest =>
        obtain ⟨rfl, rfl⟩ := hcut
        go_wp2
        go_loopw [11, 12] (fun sv kv wl => ∃ k : Nat, sv = .int .i64 (segL l f k).sum ∧ kv = .int .i64 (k : Int) ∧ f ≤ k ∧ k ≤ t ∧ wl = wc) (fun _ kv _ => t - (intOf kv).toNat)
        case atStart => exact ⟨f, by rw [segL_nil0]; rfl, rfl, Nat.le_refl _, by omega, rfl⟩
        case round =>
          obtain ⟨k, rfl, rfl, hk1, hk2, rfl⟩ := hrel
          by_cases hkt : k < t
          · obtain ⟨b', o', u, rfl, hbB, hu, hcell⟩ := (HR.out _ HBW.out).at1 (show k < l.length by omega)
            obtain ⟨z, hz, rfl⟩ := ints_get hu
            have HSN := Lib.hid (segL_snoc hk1 hz)
            have hs1 := seg_sum_le HOK.out hl f (k + 1)
            rw [HSN.out, List.sum_append, List.sum_singleton] at hs1
            have hw1 : IntKind.i64.wrap ((segL l f k).sum + z) = (segL l f k).sum + z := IntWalk.i64_in _ (by omega)
            have hktz : (k : Int) < (t : Int) := by omega
            have hk0 : (0 : Int) ≤ (k : Int) := by omega
            have hkl : (k : Int) < (l.length : Int) := by omega
            clear hu hz hbB hs1
            go_wp2
            go_roundw
            case rel => exact ⟨k + 1, by rw [HSN.out, List.sum_append, List.sum_singleton], by go_num, by omega, by omega, trivial⟩
            case measure => simp [intOf]; omega
          · obtain rfl : k = t := by omega
            have hktz : ¬ (k : Int) < (k : Int) := by omega
            clear hktz
            go_wp2
            go_loopw [13] (fun kv wl => ∃ (n : Nat) (q2 : Rat), kv = .int .i64 (n : Int) ∧ f ≤ n ∧ n ≤ k ∧ q2 = q + devR (mnR l f k) (segL l f n) ∧ Sz (10 + 23 * n) q2 ∧ VarQ wl bs q2 ∧ FBox wl w.heap.size ∧ Below w.heap.size w wl) (fun kv _ => k - (intOf kv).toNat)
            case atStart => exact ⟨f, q, rfl, Nat.le_refl _, by omega, by rw [segL_nil0, devR, Rat.add_zero], HSZ.out, HVQ.out, HFB.out, HBW.out⟩
            case round =>
              obtain ⟨n, q2, rfl, hn1, hn2, hq2, hsz2, hv2, hfb2, hbw2⟩ := hrel
              have HQ2 := Lib.hid hq2
              have HSZ2 := Lib.hid hsz2
              have HV2 := Lib.hid hv2
              have HFB2 := Lib.hid hfb2
              have HBW2 := Lib.hid hbw2
              clear hq2 hsz2 hv2 hfb2 hbw2
              obtain ⟨wl, rfl⟩ : ∃ W : World, W = wr := ⟨_, rfl⟩
              by_cases hnt : n < k
              · obtain ⟨b', o', u, rfl, hbB, hu, hcell⟩ := (HR.out _ HBW2.out).at1 (show n < l.length by omega)
                obtain ⟨z, hz, rfl⟩ := ints_get hu
                have HSN := Lib.hid (segL_snoc hn1 hz)
                have hzz := HOK.out z (List.mem_of_getElem? hz)
                have hw2 : IntKind.i64.wrap ((k : Int) - (f : Int)) = ((k - f : Nat) : Int) := by rw [IntWalk.i64_in _ (by omega)]; omega
                have hntz : (n : Int) < (k : Int) := by omega
                have hn0 : (0 : Int) ≤ (n : Int) := by omega
                have hnl : (n : Int) < (l.length : Int) := by omega
                have hs1 := seg_sum_le HOK.out hl f k
                have hmn := sz_mn HOK.out hl hft htl
                obtain ⟨z1, z2, z3⟩ := sz_sq hzz hmn
                have HMN := Lib.hid hmn
                have HSW := Lib.hid z1
                have HSD := Lib.hid z2
                have HSM := Lib.hid (sz_mono z3 (show 22 ≤ 200 by omega))
                have HSQ := Lib.hid (sz_mono HSZ2.out (show 10 + 23 * n ≤ 200 by omega))
                have HSZ3 := Lib.hid (sz_mono (m := 10 + 23 * (n + 1)) (sz_add HSZ2.out z3) (by omega))
                have HW4 := Lib.hid (rWhole_any z wl (by omega) (by omega))
                have HPA := Lib.hid (fun W => (show Calls Tryz.prog 39 #[.int .i64 (segL l f k).sum, .int .i64 ((k - f : Nat) : Int)] W (FracPost (mnR l f k) W) from rPart_any (segL l f k).sum ((k - f : Nat) : Int) W (by omega) (by omega) (by omega) (by omega)))
                clear hu hz hbB hzz hmn z1 z2 z3 hs1
                go_wp2_with fail
                (with_reducible refine (HW4.out).mono ?_)
                rintro e w4 ⟨v4, rfl, hv4, hb4⟩
                have HV4 := Lib.hid hv4
                have HB4 := Lib.hid (below_next HBW2.out hb4)
                have HVB4 := Lib.hid (HV2.out.on hb4)
                have HFB4 := Lib.hid (HFB2.out.on hb4)
                clear hv4 hb4 HW4 hcell
                go_wp2_with fail
                (with_reducible refine (HPA.out w4).mono ?_)
                rintro e w5 ⟨v5, rfl, hv5, hb5⟩
                have HL6 := Lib.hid (rLess_any 5 v4 v5 _ _ w5 (by omega) (HV4.out.on hb5) hv5 HSW.out HMN.out)
                have HB5 := Lib.hid hb5
                clear hv5 hb5
                go_wp2_with fail
                (with_reducible refine (HL6.out).mono ?_)
                rintro e w6 ⟨v6, rfl, hv6, hb6⟩
                obtain ⟨bD, D1, e1, d1, D2, e2, d2, rfl⟩ := hv6.shape
                obtain ⟨W7, hW7⟩ : ∃ W, W = w6.alloc (.cells #[.bool bD, .slice D1 d1.length e1, .slice D2 d2.length e2] 31) := ⟨_, rfl⟩
                obtain ⟨bd, hbd⟩ : ∃ b, b = w6.heap.size := ⟨_, rfl⟩
                have hb67 : Below w6.heap.size w6 W7 := by rw [hW7]; exact (Below.refl _ w6).alloc (Nat.le_refl _) _
                have hb47 := below_next HB5.out (below_next hb6 hb67)
                have HDB := Lib.hid (show W7.heap[bd]? = some (.cells #[.bool bD, .slice D1 d1.length e1, .slice D2 d2.length e2] 31 (0, 0)) by rw [hW7, hbd]; exact alloc_at _ _ _ rfl)
                have HFD := Lib.hid (hv6.on hb67)
                have HVS := Lib.hid (HVB4.out.on hb47)
                have HX7 := Lib.hid (HFB4.out.on hb47)
                have HB7 := Lib.hid (below_next HB4.out hb47)
                obtain ⟨bS, S1, t1, s1, S2, t2, s2, hgs, hfq⟩ := HVS.out.get
                have HGS := Lib.hid hgs
                have HFQ := Lib.hid hfq
                have HKS18 := Lib.hid (show ∀ X, Below W7.heap.size W7 X → (fun X => Below W7.heap.size W7 X ∧ X.cell? ⟨bs, 0, none⟩ = some (.bool bS) ∧ X.cell? ⟨bs, 1, none⟩ = some (.slice S1 s1.length t1) ∧ X.cell? ⟨bs, 2, none⟩ = some (.slice S2 s2.length t2) ∧ X.cell? ⟨bd, 0, none⟩ = some (.bool bD) ∧ X.cell? ⟨bd, 1, none⟩ = some (.slice D1 d1.length e1) ∧ X.cell? ⟨bd, 2, none⟩ = some (.slice D2 d2.length e2)) X from fun X hX => by
                  have hdx := (hX.block bd (heap_lt HDB.out)).trans HDB.out
                  obtain ⟨g0, g1, g2, -⟩ := HGS.out X hX
                  exact ⟨hX, g0, g1, g2, by rw [cellsAt hdx]; rfl, by rw [cellsAt hdx]; rfl, by rw [cellsAt hdx]; rfl⟩)
                clear hv6 hb6 hb67 hb47 hgs hfq HL6 hw2
                go_wp2_with fail
                rw [← hW7, ← hbd]
                clear hW7 hbd
                skip
                {
 refine wp_region_last (init := #[_, _, _, _, _]) (last := _) rfl (by kernel_rfl) (by kernel_rfl) (by kernel_rfl) ?_
 show wpAny _ _ _ _ 5 (Array.replicate 5 false) _ W7.drew
 refine wpAny_of_held (S := (fun X => Below W7.heap.size W7 X ∧ X.cell? ⟨bs, 0, none⟩ = some (.bool bS) ∧ X.cell? ⟨bs, 1, none⟩ = some (.slice S1 s1.length t1) ∧ X.cell? ⟨bs, 2, none⟩ = some (.slice S2 s2.length t2) ∧ X.cell? ⟨bd, 0, none⟩ = some (.bool bD) ∧ X.cell? ⟨bd, 1, none⟩ = some (.slice D1 d1.length e1) ∧ X.cell? ⟨bd, 2, none⟩ = some (.slice D2 d2.length e2))) _ _ _ _ ?_
 have HS0 := HKS18.out _ (Below.refl _ W7).drew
 have hbx0 : Below W7.heap.size W7 W7.drew := (Below.refl _ _).drew
 obtain ⟨Xx0, hXx0⟩ : ∃ X, X = W7.drew := ⟨_, rfl⟩
 rw [← hXx0] at hbx0 HS0 ⊢
 have HBx0 := Lib.hid hbx0
 clear hbx0 hXx0
 refine wpAnyH_take (i := 0) (v := ?_) rfl (by kernel_rfl) (by kernel_rfl) (by kernel_rfl) (fun _ _ _ h => h) (Or.inl ⟨by kernel_rfl, ?_⟩) HS0 ?_
 rotate_left
 · intro W hW; (try dsimp only at hW); go_simp; try (with_reducible rfl)
 refine wpAnyH_take (i := 1) (v := ?_) rfl (by kernel_rfl) (by kernel_rfl) (by kernel_rfl) (fun _ _ _ h => h) (Or.inl ⟨by kernel_rfl, ?_⟩) HS0 ?_
 rotate_left
 · intro W hW; (try dsimp only at hW); go_simp; try (with_reducible rfl)
 refine wpAnyH_take (i := 2) (v := ?_) rfl (by kernel_rfl) (by kernel_rfl) (by kernel_rfl) (fun _ _ _ h => h) (Or.inl ⟨by kernel_rfl, ?_⟩) HS0 ?_
 rotate_left
 · intro W hW; (try dsimp only at hW); go_simp; try (with_reducible rfl)
 clear HS0
 refine run_one (i := 3) (by kernel_rfl) rfl rfl ?_
 intro K hK
 go_simp
 (with_reducible refine (rTimes_any 11 _ _ _ _ Xx0 (by omega) (HFD.out.on (HBx0.out)) (HFD.out.on (HBx0.out)) HSD.out HSD.out).mono ?_)
 rintro e Xx1 ⟨v1, rfl, hvx1, hbx1⟩
 have HBx1 := Lib.hid (below_next (HBx0.out) hbx1)
 refine hK.out _ _ (HKS18.out _ HBx1.out) ?_
 clear hK K
 intro _
 obtain ⟨bm, Am, cm, lm, Dm, dm, mm, rfl⟩ := hvx1.shape
 refine run_one (i := 4) (by kernel_rfl) rfl rfl ?_
 intro K hK
 go_simp
 (with_reducible refine (rPlus_any 200 _ _ _ _ Xx1 (by omega) (HFQ.out.on (HBx1.out)) (hvx1) HSQ.out HSM.out).mono ?_)
 rintro e Xx2 ⟨v2, rfl, hvx2, hbx2⟩
 have HBx2 := Lib.hid (below_next (HBx1.out) hbx2)
 refine hK.out _ _ (HKS18.out _ HBx2.out) ?_
 clear hK K
 intro _
 obtain ⟨bp, Ap, cp, lp, Dp, dp, mp, rfl⟩ := hvx2.shape
 refine wpAnyH_done (by kernel_rfl) ?_ _
 simp only [LastQ]
 have hv8 := hvx2
 obtain ⟨y0, y1, y2, z0, z1, z2, hlt8⟩ := HGS.out _ (HBx2.out)
 obtain ⟨u0, u1, u2, v3, v4, v5, v6, hraw⟩ := (HVS.out.on (HBx2.out)).raw
 obtain ⟨W9, hW9⟩ : ∃ W, W = ((Xx2.setCell ⟨bs, 0, none⟩ (.bool bp)).setCell ⟨bs, 1, none⟩ (.slice Ap lp.length cp)).setCell ⟨bs, 2, none⟩ (.slice Dp mp.length dp) := ⟨_, rfl⟩
 have HV9 := Lib.hid (show VarQ W9 bs (q2 + ((z : Rat) - mnR l f k) * ((z : Rat) - mnR l f k)) by rw [hW9]; exact VarQ.store hraw hv8)
 have hb8 := below_next HB7.out (HBx2.out)
 have HB9 := Lib.hid (show Below w.heap.size w W9 by rw [hW9]; exact ((hb8.setCell (p := ⟨bs, 0, none⟩) (Nat.le_of_lt HBS.out) _).setCell (p := ⟨bs, 1, none⟩) (Nat.le_of_lt HBS.out) _).setCell (p := ⟨bs, 2, none⟩) (Nat.le_of_lt HBS.out) _)
 have HX9 := Lib.hid (show FBox W9 w.heap.size by rw [hW9]; exact ((fr3 (w := Xx2) (B := bs) _ _ _).block _ (heap_lt (HX7.out.on (HBx2.out))) (Nat.ne_of_lt HBS.out)).trans (HX7.out.on (HBx2.out)))
 clear hraw hv8 hb8
 go_simp
 rw [← hW9]
 clear hW9 y0 y1 y2 z0 z1 z2 hlt8
 go_wp2
 go_roundw
 case rel => exact ⟨n + 1, _, by go_num, by omega, by omega, by rw [HSN.out, devR_snoc, ← Rat.add_assoc, ← HQ2.out], HSZ3.out, HV9.out, HX9.out, HB9.out⟩
 case measure => simp [intOf]; omega
                }
              · obtain rfl : n = k := by omega
                have hntz : ¬ (n : Int) < (n : Int) := by omega
                go_wp2
                go_roundw
                case rel => exact ⟨i + 1, n, q2, rfl, by go_num, HCI1.out, by rw [HQ2.out, Rat.add_assoc, ← HRST.out, HQ.out], HSZ2.out, HV2.out, HFB2.out, HBW2.out⟩
                case measure => simp [intOf]; omega
    · have hiz : ¬ (i : Int) ≤ (zs.length : Int) := by omega
      have hqT : q = T := by
        have h1 := HQ.out
        unfold rstR at h1
        rw [if_neg hi, Rat.add_zero] at h1
        exact h1
      have hf7 := ci_le HCI.out
      have HSE := Lib.hid (show Sz 200 T by rw [← hqT]; exact sz_mono HSZ.out (by omega))
      obtain ⟨b7, E1, n1, o1, E2, n2, o2, hg7, hf7'⟩ := HVQ.out.get
      rw [hqT] at hf7'
      obtain ⟨y0, y1, y2, -⟩ := hg7 wr (Below.refl _ _)
      obtain ⟨k0, k1, k2, s0, s1, s2, hlt⟩ := HFB.out.facts
      have HFN := Lib.hid (fq_ret HFB.out hf7' HBW.out (Nat.le_refl _) (fr3 (w := wr) (B := w.heap.size) (.bool b7) (.slice E1 o1.length n1) (.slice E2 o2.length n2)))
      clear hg7 hf7' hqT hf7
      go_wp2
      refine bodyPost_ret (v := .agg #[.bool b7, .slice E1 o1.length n1, .slice E2 o2.length n2]) (by simp [results, Tryz.results8, go_sem, k0, k1, k2]) rfl ⟨⟨_, rfl, HFN.out.1, HFN.out.2⟩, HSE.out⟩
end Go.Proofs.YtnpfdelklolchaaGreatDoor
