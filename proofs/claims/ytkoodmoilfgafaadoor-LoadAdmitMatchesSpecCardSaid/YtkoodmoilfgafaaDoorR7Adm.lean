/- Package dynamometerref7: Admit. Printed by gen_r7adm.py. -/
import Derived.Test.YtkoodmoilfgafaaDoorR7Grown
import Derived.Test.YtkoodmoilfgafaaDoorAppZ
import Derived.Test.YtkoodmoilfgafaaDoorGFit
import Derived.Test.YtkoodmoilfgafaaDoorNewLine
import Derived.Maps.AppendAt
namespace Go.Proofs.YtkoodmoilfgafaaDoor
open Go Go.RowKit Go.Proofs

theorem fr_below {w w' : World} {B : Nat} (h : Below w.heap.size w w') : Fr (fun i => i = B) w w' := ⟨h.os, h.tape, h.output, h.size, fun i hi _ => h.block i hi⟩
theorem one_sz : Sz 5 ((1 : Int) : Rat) := sz_int (by omega) (by rw [T4_5]; omega)
theorem outsS_len (R r : Int) (ts : List Int) (k : Nat) : (outsS R r ts k).length = k := by simp [outsS]
/-- a store into a box of three cells that are no integers leaves the others as they are -/
theorem varq_far {w : World} {B B' : Nat} {u0 u1 u2 a0 a1 a2 : Value} {q : Rat} (h : VarQ w B q) (hX : w.heap[B']? = some (.cells #[u0, u1, u2] 74 (0, 0))) (hne : ∀ z, u0 ≠ .int .i64 z ∧ u1 ≠ .int .i64 z ∧ u2 ≠ .int .i64 z) (hB : B ≠ B') :
    VarQ (((w.setCell ⟨B', 0, none⟩ a0).setCell ⟨B', 1, none⟩ a1).setCell ⟨B', 2, none⟩ a2) B q := by
  have hf := fr3 (w := w) (B := B') a0 a1 a2
  have key : ∀ A c l x, RNatR w A c l x → RNatR (((w.setCell ⟨B', 0, none⟩ a0).setCell ⟨B', 1, none⟩ a1).setCell ⟨B', 2, none⟩ a2) A c l x := fun A c l x h => h.keep hf.size (fun b o e hb hl => hf.block b hb (h.apart hX (by intro v hv z; have := hne z; simp at hv; rcases hv with rfl | rfl | rfl <;> simp [this]) b o e hl))
  obtain ⟨A1, c1, l1, A2, c2, l2, e, h1, h2⟩ := h
  exact ⟨A1, c1, l1, A2, c2, l2, (hf.block B (heap_lt e) hB).trans e, key _ _ _ _ h1, key _ _ _ _ h2⟩
theorem ord_low {N : Int} : decide (ordQ (bil N) ((1 : Int) : Rat) < 0) = decide (N < 1000000000) := by
  have e : ((1 : Int) : Rat) = bil (1 * 1000000000) := bil_whole 1
  rw [e, bil_ord]
  by_cases h : N < 1000000000
  · rw [if_pos (by omega)]; simp [h]
  · rw [if_neg (by omega)]; split <;> simp [h]
theorem now_nn {R r : Int} {s : Int × Int} {t : Int} (hr : 0 ≤ r) (h0 : 0 ≤ s.1) (h1 : s.1 ≤ R) (ht : s.2 ≤ t) : 0 ≤ nowS R r s t := Int.le_trans h0 (now_ge hr h1 ht)

set_option maxHeartbeats 16000000 in
set_option maxRecDepth 100000 in
theorem r7Admit_any (A : Option Addr) (c : Nat) (ts : List Int) (rate burst : Int) (w : World) (hr : Rd w 0 w.heap.size 1 A ts.length (ints ts)) (hl : ts.length ≤ 9223372036854775807) :
    Calls Tryd.prog 21 #[.slice A ts.length c, .int .i64 rate, .int .i64 burst] w fun e w' => ∃ A' c', e = .returned (.tuple #[.slice A' (admL ts rate burst).length c', .int .i64 (admC ts rate burst)]) ∧ Rd w' 0 w'.heap.size 1 A' (admL ts rate burst).length (ints (admL ts rate burst)) ∧ Below w.heap.size w w' := by
  obtain ⟨ii, hii, hiz0, hiz1, hiz2⟩ := info_parts infoI3
  have HCK := Lib.hid (r7Times_any A c ts w hr hl)
  have HR := Lib.hid hr
  have HAL := Lib.hid (admL.eq_1 ts rate burst)
  clear hr
  by_cases hc : codeT ts = 0
  · have hok := codeT_ok hc
    have HCT := Lib.hid hc
    rw [hc] at HCK
    have hn := hok.le
    have HRG := Lib.hid (fun (j : Nat) (t : Int) (h : ts[j]? = some t) => hok.range h)
    clear hok
    by_cases ha : admOk rate burst
    · have HOK := Lib.hid ha
      obtain ⟨a1, a2, a3, a4⟩ := ha
      have t1 : decide (rate < 0) = false := by simp; omega
      have t2 : decide (1000000000 < rate) = false := by simp; omega
      have t3 : decide (burst < 1) = false := by simp; omega
      have t4 : decide (1000000 < burst) = false := by simp; omega
      have hR1 : 1000000000 ≤ burst * 1000000000 := by omega
      have hR2 : burst * 1000000000 ≤ 1000000000000000 := by omega
      have HW1 := Lib.hid (fun W => rWhole_any 1 W (by omega) (by omega))
      have HWB := Lib.hid (fun W => rWhole_any burst W (by omega) (by omega))
      rw [bil_whole burst] at HWB
      have HOF := Lib.hid (fun W => rnatOf_any 1 W (by omega))
      rw [show (1 : Int).toNat = 1 from rfl] at HOF
      clear hc
      go_enter Tryd.func21, Tryd.ntmps21
      go_wp2_with fail
      (with_reducible refine HCK.out.mono ?_)
      rintro e w1 ⟨rfl, hb1⟩
      have HB1 := Lib.hid hb1
      clear hb1
      go_wp2_with fail
      (with_reducible refine (HWB.out _).mono ?_)
      rintro e w2 ⟨_, rfl, ⟨A5, c5, l5, A6, c6, l6, rfl, n5, n6⟩, hb2⟩
      have HB2 := Lib.hid (below_next HB1.out hb2)
      obtain ⟨W3, hW3⟩ : ∃ W3, W3 = w2.alloc (.cells #[.bool (frS (bil (burst * 1000000000))), .slice A5 l5.length c5, .slice A6 l6.length c6] 74) := ⟨_, rfl⟩
      have hb3 : Below w2.heap.size w2 W3 := by rw [hW3]; exact (Below.refl _ w2).alloc (Nat.le_refl _) _
      have HV3 := Lib.hid (show VarQ W3 w2.heap.size (bil (burst * 1000000000)) from ⟨A5, c5, l5, A6, c6, l6, by rw [hW3]; exact alloc_at _ _ _ rfl, n5.on hb3, n6.on hb3⟩)
      have HB3 := Lib.hid hb3
      clear hb2 hb3 n5 n6
      go_upto_region 8 with fail
      rw [← hW3]
      clear hW3
      go_wp2_with fail
      go_loopw [9, 11, 12, 13, 14, 15, 16, 17] (fun ov av iv _ _ _ _ _ wr => ∃ (k : Nat) (h a : Int), iv = .int .i64 k ∧ av = .int .i64 a ∧ k ≤ ts.length ∧ a ≤ 1000000000000 ∧ Hid (stS (burst * 1000000000) rate ts k = some (h, a)) ∧ 0 ≤ h ∧ h ≤ burst * 1000000000 ∧ 0 ≤ a ∧ VarQ wr w2.heap.size (bil h) ∧ RowZ wr (w2.heap.size + 1) 3 ov (outsS (burst * 1000000000) rate ts k) ∧ Hid (∀ x ∈ outsS (burst * 1000000000) rate ts k, x ≤ 1000000000000) ∧ Below w2.heap.size w2 wr) (fun _ _ iv _ _ _ _ _ _ => ts.length - (intOf iv).toNat)
      case atStart => exact ⟨0, burst * 1000000000, 0, rfl, rfl, Nat.zero_le _, by omega, Lib.hid rfl, by omega, by omega, by omega, HV3.out, .inl ⟨rfl, rfl⟩, Lib.hid (fun x hx => by simp [outsS] at hx), HB3.out⟩
      case round =>
        obtain ⟨k, h, a, rfl, rfl, hk, ha1, HST, h0, h1, ha0, hvl, hox, HOL, hbw⟩ := hrel
        have HVL := Lib.hid hvl
        have HOW := Lib.hid hox
        have HBW := Lib.hid hbw
        have hsz := hbw.size
        have hLB := heap_lt hvl.choose_spec.choose_spec.choose_spec.choose_spec.choose_spec.choose_spec.1
        by_cases hlt : k < ts.length
        · obtain ⟨b, o, u, rfl, hb, hu, qk0⟩ := HR.out.at1 hlt
          obtain ⟨t, ht, rfl⟩ := ints_get hu
          have qk := ((below_next HB2.out hbw).cell (p := ⟨b, o + k, none⟩) hb).trans qk0
          obtain ⟨r1, r2⟩ := HRG.out k t ht
          have HSS := Lib.hid (stS_succ HST.out ht)
          obtain ⟨N, hN⟩ : ∃ N, N = nowS (burst * 1000000000) rate (h, a) (max t a) := ⟨_, rfl⟩
          have hN0 : 0 ≤ N := by rw [hN]; exact now_nn a1 h0 h1 (by simp only; omega)
          have hN1 : N ≤ burst * 1000000000 := by rw [hN]; exact now_le _ _ _ _
          have HTN := Lib.hid (fun (hh : 1000000000 ≤ N) => take_now (R := burst * 1000000000) (r := rate) (s := (h, a)) (t := t) a1 h1 (by rw [← hN]; exact hh))
          have HTM := Lib.hid (fun (hp : 0 < rate) (hh : N < 1000000000) => take_more (R := burst * 1000000000) (r := rate) (s := (h, a)) (t := t) hp h1 (by rw [← hN]; exact hh))
          have HTZ := Lib.hid (fun (hp : rate = 0) (hh : N < 1000000000) => take_none (R := burst * 1000000000) (s := (h, a)) (t := t) h1 (by rw [← hp, ← hN]; exact hh))
          have HGR := Lib.hid (fun W u (hu : FracR W u (bil h)) => r7Grown_any u h rate (max t a - a) burst W hu h0 (by omega) a1 a2 (by omega) (by omega) a3 a4)
          rw [show min (burst * 1000000000) (h + rate * (max t a - a)) = N from hN.symm] at HGR
          have HNM := Lib.hid hN
          rw [← hN] at HTN
          clear hu ht qk0 hox hN
          obtain ⟨A20, c20, l20, A21, c21, l21, e20, n20, n21⟩ := HVL.out
          have p20 : wr.cell? ⟨w2.heap.size, 0, none⟩ = some (.bool (frS (bil h))) := by rw [cellsAt e20]; rfl
          have p21 : wr.cell? ⟨w2.heap.size, 1, none⟩ = some (.slice A20 l20.length c20) := by rw [cellsAt e20]; rfl
          have p22 : wr.cell? ⟨w2.heap.size, 2, none⟩ = some (.slice A21 l21.length c21) := by rw [cellsAt e20]; rfl
          have HF20 := Lib.hid (show ∀ Y, Below wr.heap.size wr Y → FracR Y (.agg #[.bool (frS (bil h)), .slice A20 l20.length c20, .slice A21 l21.length c21]) (bil h) from fun Y hY => ⟨A20, c20, l20, A21, c21, l21, rfl, n20.on hY, n21.on hY⟩)
          have HP20 := Lib.hid (show ∀ Y, Below wr.heap.size wr Y → Y.cell? ⟨w2.heap.size, 0, none⟩ = some (.bool (frS (bil h))) ∧ Y.cell? ⟨w2.heap.size, 1, none⟩ = some (.slice A20 l20.length c20) ∧ Y.cell? ⟨w2.heap.size, 2, none⟩ = some (.slice A21 l21.length c21) from fun Y hY => by
            have e := (hY.block _ hLB).trans e20
            exact ⟨by rw [cellsAt e]; rfl, by rw [cellsAt e]; rfl, by rw [cellsAt e]; rfl⟩)
          have HOB := Lib.hid (fun i (hi : some i = u9.ownBlock) => (HOW.out.block hi).2)
          clear hvl hbw e20 n20 n21
          go_wp2_with fail
          (with_reducible refine (HGR.out _ _ (HF20.out _ (Below.refl _ _))).mono ?_)
          rintro e w4 ⟨_, rfl, ⟨A25, c25, l25, A26, c26, l26, rfl, n25, n26⟩, hb4⟩
          obtain ⟨W5, hW5⟩ : ∃ W5, W5 = w4.alloc (.cells #[.bool (frS (bil N)), .slice A25 l25.length c25, .slice A26 l26.length c26] 74) := ⟨_, rfl⟩
          obtain ⟨B14, hB14⟩ : ∃ B, B = w4.heap.size := ⟨_, rfl⟩
          have hb5 : Below w4.heap.size w4 W5 := by rw [hW5]; exact (Below.refl _ w4).alloc (Nat.le_refl _) _
          have HV5 := Lib.hid (show VarQ W5 B14 (bil N) from ⟨A25, c25, l25, A26, c26, l26, by rw [hW5]; exact alloc_at _ _ _ hB14, n25.on hb5, n26.on hb5⟩)
          have HBR5 := Lib.hid (below_next hb4 hb5)
          have hs4 := hb4.size
          have hB1 : wr.heap.size ≤ B14 := by omega
          have hB2 : w2.heap.size < B14 := by omega
          clear hb4 hb5 n25 n26
          go_upto_region 13 with fail
          rw [← hW5, ← hB14]
          clear hW5 hB14
          have HOR := Lib.hid (fun W u v hu hv => rOrder_any 5 u v (bil N) ((1 : Int) : Rat) W (by omega) hu hv (bil_sz (by omega) (by omega)) one_sz)
          have HLO := Lib.hid (ord_low (N := N))
          obtain ⟨od, hod⟩ : ∃ od, od = ordQ (bil N) ((1 : Int) : Rat) := ⟨_, rfl⟩
          rw [← hod] at HOR HLO
          clear hod
          obtain ⟨A40, c40, l40, A41, c41, l41, e40, n40, n41⟩ := HV5.out
          have HE40 := Lib.hid e40
          have HF40 := Lib.hid (show ∀ Y, Below W5.heap.size W5 Y → FracR Y (.agg #[.bool (frS (bil N)), .slice A40 l40.length c40, .slice A41 l41.length c41]) (bil N) from fun Y hY => ⟨A40, c40, l40, A41, c41, l41, rfl, n40.on hY, n41.on hY⟩)
          have HK40 := Lib.hid (show ∀ Y, Below W5.heap.size W5 Y → (fun Y => Below W5.heap.size W5 Y ∧ Y.cell? ⟨B14, 0, none⟩ = some (.bool (frS (bil N))) ∧ Y.cell? ⟨B14, 1, none⟩ = some (.slice A40 l40.length c40) ∧ Y.cell? ⟨B14, 2, none⟩ = some (.slice A41 l41.length c41)) Y from fun Y hY => by
            have e := (hY.block _ (heap_lt HE40.out)).trans HE40.out
            exact ⟨hY, by rw [cellsAt e]; rfl, by rw [cellsAt e]; rfl, by rw [cellsAt e]; rfl⟩)
          have HN41 := Lib.hid (fun Y (hY : Below W5.heap.size W5 Y) => n41.on hY)
          clear e40 n40 n41
          obtain ⟨_, f0, f1, f2⟩ := HK40.out W5 (Below.refl _ _)
          go_upto_region 13 with fail
          go_region_held3 (fun Y => Below W5.heap.size W5 Y ∧ Y.cell? ⟨B14, 0, none⟩ = some (.bool (frS (bil N))) ∧ Y.cell? ⟨B14, 1, none⟩ = some (.slice A40 l40.length c40) ∧ Y.cell? ⟨B14, 2, none⟩ = some (.slice A41 l41.length c41))
            (first
              | exact HK40.out _ (Below.refl _ W5).drew
              | (go_split_ands; refine HK40.out _ (below_next ?_ hb13); assumption)
              | (go_split_ands; refine HK40.out _ (below_next ?_ hb14); assumption))
            (first
              | (go_at_call 55; (with_reducible refine (HW1.out _).mono ?_); rintro e w13 ⟨v13, rfl, hv13, hb13⟩)
              | (go_at_call 57; (with_reducible refine (HOR.out _ _ v13 ?_ hv13).mono ?_); (exact HF40.out _ (by go_split_ands; assumption)); rintro e w14 ⟨rfl, hb14⟩))
          have HB14 := Lib.hid (show Below W5.heap.size W5 w14 by go_split_ands; assumption)
          clear hb13 hb14 hv13 f0 f1 f2
          have HBR14 := Lib.hid (below_next HBR5.out HB14.out)
          have HV14 := Lib.hid (HV5.out.on HB14.out)
          by_cases hlow : N < 1000000000
          · skip
            have t5 : decide (od < 0) = true := by rw [HLO.out]; simpa using hlow
            have ho : od < 0 := by simpa using t5
            by_cases hz : rate = 0
            · have t6 : (rate == 0) = true := by simpa using hz
              have HEC := Lib.hid (admC_none HCT.out HOK.out (k := k + 1) (by omega) (by rw [HSS.out]; subst hz; exact HTZ.out rfl hlow))
              have HBE := Lib.hid (below_next HB2.out (HBW.out.trans (HBR14.out.mono hsz)))
              clear hlow
              go_wp2
              go_ret2
              first
                | exact ⟨none, 0, by rw [HEC.out.1, HEC.out.2]; rfl, by rw [HEC.out.2]; exact Rd.nil, HBE.out⟩
                | exact ⟨none, ⟨0, by rw [HEC.out.1, HEC.out.2]; rfl⟩, by rw [HEC.out.2]; exact Rd.nil, HBE.out⟩
            · have t6 : (rate == 0) = false := by simpa using hz
              have hr0 : 0 < rate := by omega
              obtain ⟨m, hm⟩ : ∃ m, m = moreS (burst * 1000000000) rate (h, a) (max t a) := ⟨_, rfl⟩
              have hm0 : 0 ≤ m := by rw [hm]; exact more_pos hr0 (by rw [← HNM.out]; exact hlow)
              have hm1 : m ≤ 1000000000 := by rw [hm]; exact more_le hr0 (by rw [← HNM.out]; exact hN0)
              have HMN := Lib.hid (show m = (1000000000 - N + rate - 1) / rate by rw [hm]; unfold moreS; rw [← HNM.out])
              obtain ⟨N2, hN2⟩ : ∃ N2, N2 = nowS (burst * 1000000000) rate (h, a) (max t a + m) := ⟨_, rfl⟩
              have HSU := Lib.hid (show stS (burst * 1000000000) rate ts (k + 1) = some (N2 - 1000000000, max t a + m) by rw [HSS.out, HTM.out hr0 hlow, hN2, hm])
              have hN21 : N2 ≤ burst * 1000000000 := by rw [hN2]; exact now_le _ _ _ _
              have hN20 : 1000000000 ≤ N2 := by have := (st_bd a1 hR1 (k + 1) _ _ HSU.out).1; omega
              have HG2 := Lib.hid (fun (hT : max t a + m ≤ 1000000000000) W u (hu : FracR W u (bil h)) => r7Grown_any u h rate (max t a + m - a) burst W hu h0 (by omega) a1 a2 (by omega) (by omega) a3 a4)
              rw [show min (burst * 1000000000) (h + rate * (max t a + m - a)) = N2 from hN2.symm] at HG2
              obtain ⟨ql, hql⟩ : ∃ ql, ql = mkRat (1000000000 - N) rate.toNat := ⟨_, rfl⟩
              have zq : Sz 5 ql := by rw [hql]; exact sz_part (by omega) (by rw [T4_5]; omega) (by rw [T4_5]; omega)
              have zp : Sz 5 (mkRat 1000000000 rate.toNat) := sz_part (by omega) (by rw [T4_5]; decide) (by rw [T4_5]; omega)
              have zd : Sz 5 (mkRat 1 ql.den) := sz_part ql.den_pos (by rw [T4_5]; decide) zq.2
              have zb : Sz 5 (bil N) := bil_sz (by omega) (by omega)
              have HL1 := Lib.hid (fun W u v hu hv => rLess_any 5 u v ((1 : Int) : Rat) (bil N) W (by omega) hu hv one_sz zb)
              have HPA := Lib.hid (fun W => rPart_any 1000000000 rate W (by omega) (by omega) (by omega) (by omega))
              have HTI := Lib.hid (fun W u v hu hv => rTimes_any 11 u v (((1 : Int) : Rat) - bil N) (mkRat 1000000000 rate.toNat) W (by omega) hu hv (sz_sub one_sz zb) (sz_mono zp (by omega)))
              rw [bil_lack N rate hr0, ← hql] at HTI
              have HP2 := Lib.hid (fun W u v hu hv => rPlus_any 5 u v ql ((1 : Int) : Rat) W (by omega) hu hv zq one_sz)
              have HL2 := Lib.hid (fun W u v hu hv => rLess_any 11 u v (ql + ((1 : Int) : Rat)) (mkRat 1 ql.den) W (by omega) hu hv (sz_add zq one_sz) (sz_mono zd (by omega)))
              have HFO := Lib.hid (fun W u hu => rFloor_any 17 u (ql + ((1 : Int) : Rat) - mkRat 1 ql.den) W (by omega) hu (sz_sub (sz_add zq one_sz) zd))
              have hfl : frN (ql + ((1 : Int) : Rat) - mkRat 1 ql.den) / (ql + ((1 : Int) : Rat) - mkRat 1 ql.den).den = m.toNat := by rw [hql, round_up (by omega) hr0, HMN.out]
              rw [hfl] at HFO
              have hiv : intV m.toNat 1000000000001 = .tuple #[.int .i64 m, .bool true] := by
                unfold intV; rw [if_neg (by omega), Int.toNat_of_nonneg hm0]
              have HIN := Lib.hid (fun W A c l (hh : RNatR W A c l m.toNat) => rInt_any A c l m.toNat 1000000000001 W hh (by have := of_len hh (by omega); omega) (by omega) (by omega))
              rw [hiv] at HIN
              have HF14 := Lib.hid (show ∀ Y, Below w14.heap.size w14 Y → FracR Y (.agg #[.bool (frS (bil N)), .slice A40 l40.length c40, .slice A41 l41.length c41]) (bil N) from fun Y hY => HF40.out Y (below_next HB14.out hY))
              have HK14 := Lib.hid (show ∀ Y, Below w14.heap.size w14 Y → (fun Y => Below w14.heap.size w14 Y ∧ Y.cell? ⟨B14, 0, none⟩ = some (.bool (frS (bil N))) ∧ Y.cell? ⟨B14, 1, none⟩ = some (.slice A40 l40.length c40) ∧ Y.cell? ⟨B14, 2, none⟩ = some (.slice A41 l41.length c41)) Y from fun Y hY => by
                obtain ⟨_, q1, q2, q3⟩ := HK40.out Y (below_next HB14.out hY)
                exact ⟨hY, q1, q2, q3⟩)
              clear hm hN2 zq zp zd zb hfl hiv hql
              obtain ⟨_, f0, f1, f2⟩ := HK14.out w14 (Below.refl _ _)
              go_upto_region 16 with fail
              go_cut [15] from 39 to 108 (fun v wx => ∃ B, v = .pointer (some ⟨B, 0, none⟩) ∧ VarQ wx B ql ∧ Below w14.heap.size w14 wx)
              case first =>
                go_region_held3 (fun Y => Below w14.heap.size w14 Y ∧ Y.cell? ⟨B14, 0, none⟩ = some (.bool (frS (bil N))) ∧ Y.cell? ⟨B14, 1, none⟩ = some (.slice A40 l40.length c40) ∧ Y.cell? ⟨B14, 2, none⟩ = some (.slice A41 l41.length c41))
                  (first
                    | exact HK14.out _ (Below.refl _ w14).drew
                    | exact HK14.out _ ((Below.refl _ w14).alloc (Nat.le_refl _) _).drew
                    | (go_split_ands; refine HK14.out _ (below_next ?_ hb84); assumption)
                    | (go_split_ands; refine HK14.out _ (below_next ?_ hb85); assumption)
                    | (go_split_ands; refine HK14.out _ (below_next ?_ hb86); assumption)
                    | (go_split_ands; refine HK14.out _ (below_next ?_ hb87); assumption)
                    | (go_split_ands; refine HK14.out _ (below_next ?_ ((Below.refl _ _).alloc (Nat.le_refl _) _)); assumption)
                    | (go_split_ands; refine HK14.out _ (below_realloc (Z := .cells #[.bool false, .slice none 0 0, .slice none 0 0] 74) ?_ (by omega)); assumption)
                    | (go_split_ands; exact HK14.out _ (((Below.setCell (by assumption) (by show w14.heap.size ≤ _; first | exact Nat.le_refl _ | (dsimp only; omega) | omega) _).setCell (by show w14.heap.size ≤ _; first | exact Nat.le_refl _ | (dsimp only; omega) | omega) _).setCell (by show w14.heap.size ≤ _; first | exact Nat.le_refl _ | (dsimp only; omega) | omega) _)))
                  (first
                    | (go_at_call 55; (with_reducible refine (HW1.out _).mono ?_); rintro e w84 ⟨v84, rfl, hv84, hb84⟩; have s84 : w14.heap.size ≤ w84.heap.size := (by first | exact hb84.size | exact Nat.le_trans (Nat.le_of_lt (by simp)) hb84.size | exact Nat.le_trans (Nat.le_succ _) hb84.size))
                    | (go_at_call 59; (with_reducible refine (HL1.out _ v84 _ ?_ ?_).mono ?_); (first | exact hv84 | exact FracR.on (hv84) ((Below.refl _ _).alloc (Nat.le_refl _) _)); exact HF14.out _ (by go_split_ands; assumption); rintro e w85 ⟨v85, rfl, hv85, hb85⟩; have s85 : w84.heap.size ≤ w85.heap.size := (by first | exact hb85.size | exact Nat.le_trans (Nat.le_of_lt (by simp)) hb85.size | exact Nat.le_trans (Nat.le_succ _) hb85.size); have o85 : ∀ {v : Value} {q : Rat}, FracR w84 v q → FracR w85 v q := (fun h => by first | exact h.on hb85 | exact (h.on ((Below.refl _ _).alloc (Nat.le_refl _) _)).on hb85))
                    | (go_at_call 60; (with_reducible refine (HPA.out _).mono ?_); rintro e w86 ⟨v86, rfl, hv86, hb86⟩; have s86 : w85.heap.size ≤ w86.heap.size := (by first | exact hb86.size | exact Nat.le_trans (Nat.le_of_lt (by simp)) hb86.size | exact Nat.le_trans (Nat.le_succ _) hb86.size); have o86 : ∀ {v : Value} {q : Rat}, FracR w85 v q → FracR w86 v q := (fun h => by first | exact h.on hb86 | exact (h.on ((Below.refl _ _).alloc (Nat.le_refl _) _)).on hb86))
                    | (go_at_call 58; (with_reducible refine (HTI.out _ v85 v86 ?_ ?_).mono ?_); (first | exact o86 (hv85) | exact FracR.on (o86 (hv85)) ((Below.refl _ _).alloc (Nat.le_refl _) _)); (first | exact hv86 | exact FracR.on (hv86) ((Below.refl _ _).alloc (Nat.le_refl _) _)); rintro e w87 ⟨_, rfl, ⟨A7, c7, l7, A8, c8, l8, rfl, h7, h8⟩, hb87⟩; have s87 : w86.heap.size ≤ w87.heap.size := (by first | exact hb87.size | exact Nat.le_trans (Nat.le_of_lt (by simp)) hb87.size | exact Nat.le_trans (Nat.le_succ _) hb87.size); (first | (have HBX := (FBox.on (alloc_at w86 _ _ rfl : FBox (w86.alloc (.cells #[.bool false, .slice none 0 0, .slice none 0 0] 74)) w86.heap.size) hb87)) | (have HBX := (FBox.on (FBox.on (alloc_at w85 _ _ rfl : FBox (w85.alloc (.cells #[.bool false, .slice none 0 0, .slice none 0 0] 74)) w85.heap.size) hb86) hb87)) | (have HBX := (FBox.on (FBox.on (FBox.on (alloc_at w84 _ _ rfl : FBox (w84.alloc (.cells #[.bool false, .slice none 0 0, .slice none 0 0] 74)) w84.heap.size) hb85) hb86) hb87)) | (have HBX := (FBox.on (FBox.on (FBox.on (FBox.on (show FBox ((w14.alloc (.cells #[.bool false, .slice none 0 0, .slice none 0 0] 74)).drew) w14.heap.size from alloc_at w14 _ _ rfl) hb84) hb85) hb86) hb87)) | have HBX := True.intro); (try obtain ⟨p0, p1, p2, z0, z1, z2, hlt⟩ := HBX.facts)))
                all_goals go_wp2_with fail
                all_goals go_meet
                all_goals first
                  | exact ⟨_, rfl, varq_set HBX (by simp) h7 h8, by go_split_ands; assumption⟩
                  | exact ⟨_, rfl, ⟨A7, c7, l7, A8, c8, l8, alloc_at _ _ _ rfl, h7.on ((Below.refl _ _).alloc (Nat.le_refl _) _), h8.on ((Below.refl _ _).alloc (Nat.le_refl _) _)⟩, by go_split_ands; assumption⟩
              case rest =>
                obtain ⟨B15, rfl, hv15, hb15⟩ := hcut
                have HV15 := Lib.hid hv15
                have HB15 := Lib.hid hb15
                obtain ⟨A30, c30, l30, A31, c31, l31, e30, n30, n31⟩ := HV15.out
                have HE30 := Lib.hid e30
                have HF30 := Lib.hid (show ∀ Y, Below wc.heap.size wc Y → FracR Y (.agg #[.bool (frS ql), .slice A30 l30.length c30, .slice A31 l31.length c31]) ql from fun Y hY => ⟨A30, c30, l30, A31, c31, l31, rfl, n30.on hY, n31.on hY⟩)
                have HK30 := Lib.hid (show ∀ Y, Below wc.heap.size wc Y → (fun Y => Below wc.heap.size wc Y ∧ Y.cell? ⟨B15, 0, none⟩ = some (.bool (frS ql)) ∧ Y.cell? ⟨B15, 1, none⟩ = some (.slice A30 l30.length c30) ∧ Y.cell? ⟨B15, 2, none⟩ = some (.slice A31 l31.length c31)) Y from fun Y hY => by
                  have e := (hY.block _ (heap_lt HE30.out)).trans HE30.out
                  exact ⟨hY, by rw [cellsAt e]; rfl, by rw [cellsAt e]; rfl, by rw [cellsAt e]; rfl⟩)
                have HN31 := Lib.hid (fun Y (hY : Below wc.heap.size wc Y) => n31.on hY)
                clear e30 n30 n31
                clear hv15 hb15 f0 f1 f2
                have HFB := Lib.hid (show ∀ W A c l, Below wc.heap.size wc W → RNatR W A c l 1 → FracR W (.agg #[.bool false, .slice A l.length c, .slice A31 l31.length c31]) (mkRat 1 ql.den) from fun W A c l hb h => by
                  obtain ⟨g1, g2, g3⟩ := frac_one ql.den_pos
                  exact ⟨A, c, l, A31, c31, l31, by rw [g1], by rw [g2]; exact h, by rw [g3]; exact HN31.out W hb⟩)
                obtain ⟨_, f0, f1, f2⟩ := HK30.out wc (Below.refl _ _)
                go_upto_region 17 with fail
                go_region_held3 (fun Y => Below wc.heap.size wc Y ∧ Y.cell? ⟨B15, 0, none⟩ = some (.bool (frS ql)) ∧ Y.cell? ⟨B15, 1, none⟩ = some (.slice A30 l30.length c30) ∧ Y.cell? ⟨B15, 2, none⟩ = some (.slice A31 l31.length c31))
                  (first
                    | exact HK30.out _ (Below.refl _ wc).drew
                    | (go_split_ands; refine HK30.out _ (below_next ?_ hb91); assumption)
                    | (go_split_ands; refine HK30.out _ (below_next ?_ hb92); assumption)
                    | (go_split_ands; refine HK30.out _ (below_next ?_ hb93); assumption)
                    | (go_split_ands; refine HK30.out _ (below_next ?_ hb94); assumption)
                    | (go_split_ands; refine HK30.out _ (below_next ?_ hb95); assumption)
                    | (go_split_ands; refine HK30.out _ (below_next ?_ hb96); assumption))
                  (first
                    | (go_at_call 55; (with_reducible refine (HW1.out _).mono ?_); rintro e w91 ⟨v91, rfl, hv91, hb91⟩)
                    | (go_at_call 63; (with_reducible refine (HP2.out _ _ v91 ?_ hv91).mono ?_); (exact HF30.out _ (by go_split_ands; assumption)); rintro e w92 ⟨v92, rfl, hv92, hb92⟩)
                    | (go_at_call 64; (with_reducible refine (HOF.out _).mono ?_); rintro e w93 ⟨A93, c93, l93, rfl, hn93, hb93⟩)
                    | (go_at_call 59; (with_reducible refine (HL2.out _ v92 _ (hv92.on hb93) ?_).mono ?_); (exact HFB.out _ A93 c93 l93 (by go_split_ands; assumption) hn93); rintro e w94 ⟨v94, rfl, hv94, hb94⟩)
                    | (go_at_call 62; (with_reducible refine (HFO.out _ v94 hv94).mono ?_); rintro e w95 ⟨A95, c95, l95, rfl, hn95, hb95⟩)
                    | (go_at_call 61; (with_reducible refine (HIN.out _ A95 c95 l95 hn95).mono ?_); rintro e w96 ⟨rfl, hb96⟩))
                have HB96 := Lib.hid (show Below wc.heap.size wc w96 by go_split_ands; assumption)
                clear hb91 hb92 hb93 hb94 hb95 hb96 hv91 hv92 hn93 hv94 hn95 f0 f1 f2
                have HB3 := Lib.hid (below_next HB15.out HB96.out)
                have HBR9 := Lib.hid (below_next HBR14.out HB3.out)
                have HBZ := Lib.hid (HBW.out.trans (HBR9.out.mono hsz))
                by_cases hlate : 1000000000000 < max t a + m
                · have t7 : decide (1000000000000 < max t a + m) = true := by simpa using hlate
                  have HEC := Lib.hid (admC_late HCT.out HOK.out hr0 hlt HSU.out hlate)
                  have HBE := Lib.hid (below_next HB2.out HBZ.out)
                  go_wp2
                  go_ret2
                  first
                    | exact ⟨none, 0, by rw [HEC.out.1, HEC.out.2]; rfl, by rw [HEC.out.2]; exact Rd.nil, HBE.out⟩
                    | exact ⟨none, ⟨0, by rw [HEC.out.1, HEC.out.2]; rfl⟩, by rw [HEC.out.2]; exact Rd.nil, HBE.out⟩
                · have t7 : decide (1000000000000 < max t a + m) = false := by simpa using hlate
                  obtain ⟨p30, p31, p32⟩ := HP20.out w96 HBR9.out
                  have HG3 := Lib.hid (HG2.out (by omega) w96 _ (HF20.out w96 HBR9.out))
                  go_wp2_with fail
                  (with_reducible refine HG3.out.mono ?_)
                  rintro e w97 ⟨_, rfl, ⟨A27, c27, l27, A28, c28, l28, rfl, n27, n28⟩, hb97⟩
                  have e14 : w97.heap[B14]? = _ := (((HB3.out.block _ (by have := heap_lt HE40.out; have := HB14.out.size; omega)).trans (HB14.out.block _ (heap_lt HE40.out))).trans HE40.out) |> fun q => (hb97.block _ (heap_lt q)).trans q
                  obtain ⟨X, hX⟩ : ∃ X, X = ((w97.setCell ⟨B14, 0, none⟩ (.bool (frS (bil N2)))).setCell ⟨B14, 1, none⟩ (.slice A27 l27.length c27)).setCell ⟨B14, 2, none⟩ (.slice A28 l28.length c28) := ⟨_, rfl⟩
                  have HV14X := Lib.hid (show VarQ X B14 (bil N2) by rw [hX]; exact varq_set e14 (by simp) n27 n28)
                  have HVLX := Lib.hid (show VarQ X w2.heap.size (bil h) by rw [hX]; exact varq_far ((HVL.out.on HBR9.out).on hb97) e14 (by simp) (by omega))
                  have hfX : Fr (fun i => i = B14) w97 X := by rw [hX]; exact fr3 _ _ _
                  have HBX := Lib.hid (show Below w2.heap.size w2 X from (HBZ.out.trans (hb97.mono HBZ.out.size)).trans (hfX.below (B := w2.heap.size) (by have := HBZ.out.size; have := hb97.size; omega) (fun i hi hm => by omega)))
                  have HOX := Lib.hid (((HOW.out.below HBR9.out).below hb97).fr hfX (fun i hi hm => by have := HOB.out i hi; omega))
                  have HES := Lib.hid (show outsS (burst * 1000000000) rate ts (k + 1) = outsS (burst * 1000000000) rate ts k ++ [max t a + m] by rw [outsS_snoc, HSU.out]; rfl)
                  have HTL := Lib.hid (show max t a + m ≤ 1000000000000 by omega)
                  obtain ⟨z0, z1, z2⟩ : w97.frozen? ⟨B14, 0, none⟩ = false ∧ w97.frozen? ⟨B14, 1, none⟩ = false ∧ w97.frozen? ⟨B14, 2, none⟩ = false := ⟨frozenAt e14 0, frozenAt e14 1, frozenAt e14 2⟩
                  obtain ⟨y0, y1, y2⟩ : w97.cell? ⟨B14, 0, none⟩ = some (.bool (frS (bil N))) ∧ w97.cell? ⟨B14, 1, none⟩ = some (.slice A40 l40.length c40) ∧ w97.cell? ⟨B14, 2, none⟩ = some (.slice A41 l41.length c41) := ⟨by rw [cellsAt e14]; rfl, by rw [cellsAt e14]; rfl, by rw [cellsAt e14]; rfl⟩
                  have hl97 := heap_lt e14
                  clear HVL HOW HBW HV5 HV14 HP20 HF20 hb97 n27 n28 hfX e14 p30 p31 p32
                  clear HK40 HF40 HN41 HE40 HV15
                  have HVL := HVLX
                  have HV14 := HV14X
                  go_upto_region 22 with fail
                  rw [← hX]
                  clear hX y0 y1 y2 z0 z1 z2 hl97
                  obtain ⟨A50, c50, l50, A51, c51, l51, e50, n50, n51⟩ := HV14.out
                  have HE50 := Lib.hid e50
                  have HF50 := Lib.hid (show ∀ Y, Below X.heap.size X Y → FracR Y (.agg #[.bool (frS (bil N2)), .slice A50 l50.length c50, .slice A51 l51.length c51]) (bil N2) from fun Y hY => ⟨A50, c50, l50, A51, c51, l51, rfl, n50.on hY, n51.on hY⟩)
                  have HK50 := Lib.hid (show ∀ Y, Below X.heap.size X Y → (fun Y => Below X.heap.size X Y ∧ Y.cell? ⟨B14, 0, none⟩ = some (.bool (frS (bil N2))) ∧ Y.cell? ⟨B14, 1, none⟩ = some (.slice A50 l50.length c50) ∧ Y.cell? ⟨B14, 2, none⟩ = some (.slice A51 l51.length c51)) Y from fun Y hY => by
                    have e := (hY.block _ (heap_lt HE50.out)).trans HE50.out
                    exact ⟨hY, by rw [cellsAt e]; rfl, by rw [cellsAt e]; rfl, by rw [cellsAt e]; rfl⟩)
                  have HN51 := Lib.hid (fun Y (hY : Below X.heap.size X Y) => n51.on hY)
                  clear e50 n50 n51
                  obtain ⟨A60, c60, l60, A61, c61, l61, e60, _, _⟩ := HVL.out
                  have HE60 := Lib.hid e60
                  have hl60 := heap_lt e60
                  have HPL := Lib.hid (show ∀ Y, Below X.heap.size X Y → Y.cell? ⟨w2.heap.size, 0, none⟩ = some (.bool (frS (bil h))) ∧ Y.cell? ⟨w2.heap.size, 1, none⟩ = some (.slice A60 l60.length c60) ∧ Y.cell? ⟨w2.heap.size, 2, none⟩ = some (.slice A61 l61.length c61) ∧ Y.frozen? ⟨w2.heap.size, 0, none⟩ = false ∧ Y.frozen? ⟨w2.heap.size, 1, none⟩ = false ∧ Y.frozen? ⟨w2.heap.size, 2, none⟩ = false ∧ w2.heap.size < Y.heap.size from fun Y hY => by
                    have e := (hY.block _ (heap_lt HE60.out)).trans HE60.out
                    exact ⟨by rw [cellsAt e]; rfl, by rw [cellsAt e]; rfl, by rw [cellsAt e]; rfl, frozenAt e 0, frozenAt e 1, frozenAt e 2, heap_lt e⟩)
                  have HK22 := Lib.hid (show ∀ Y, Fr (fun i => i = w2.heap.size) X Y → Fr (fun i => i = w2.heap.size) X Y ∧ Y.cell? ⟨B14, 0, none⟩ = some (.bool (frS (bil N2))) ∧ Y.cell? ⟨B14, 1, none⟩ = some (.slice A50 l50.length c50) ∧ Y.cell? ⟨B14, 2, none⟩ = some (.slice A51 l51.length c51) from fun Y hY => by
                    have e := (hY.block _ (heap_lt HE50.out) (by omega)).trans HE50.out
                    exact ⟨hY, by rw [cellsAt e]; rfl, by rw [cellsAt e]; rfl, by rw [cellsAt e]; rfl⟩)
                  have HLE := Lib.hid (fun W u v hu hv => rLess_any 5 u v (bil N2) ((1 : Int) : Rat) W (by omega) hu hv (bil_sz (by omega) (by omega)) one_sz)
                  rw [bil_less] at HLE
                  obtain ⟨_, f0, f1, f2⟩ := HK50.out X (Below.refl _ _)
                  obtain ⟨g0, g1, g2, g3, g4, g5, g6⟩ := HPL.out X (Below.refl _ _)
                  clear e60 HK50
                  go_region_held3 (fun Y => Fr (fun i => i = w2.heap.size) X Y ∧ Y.cell? ⟨B14, 0, none⟩ = some (.bool (frS (bil N2))) ∧ Y.cell? ⟨B14, 1, none⟩ = some (.slice A50 l50.length c50) ∧ Y.cell? ⟨B14, 2, none⟩ = some (.slice A51 l51.length c51))
                    (first
                      | exact HK22.out _ (fr_below (Below.refl _ X).drew)
                      | exact HK22.out _ (fr_below (below_next (Below.refl _ X).drew hb24))
                      | exact HK22.out _ (fr_below (below_next (below_next (Below.refl _ X).drew hb24) hb25))
                      | exact HK22.out _ (Fr.trans (fr_below (below_next (below_next (Below.refl _ X).drew hb24) hb25)) (fr3 _ _ _) (fun _ _ h => h)))
                    (first
                      | (go_at_call 55; (with_reducible refine (HW1.out _).mono ?_); rintro e w24 ⟨v24, rfl, hv24, hb24⟩)
                      | (go_at_call 59; (with_reducible refine (HLE.out _ _ v24 ?_ hv24).mono ?_); (exact HF50.out _ (below_next (Below.refl _ X).drew hb24)); rintro e w25 ⟨_, rfl, ⟨A70, c70, l70, A71, c71, l71, rfl, n70, n71⟩, hb25⟩; obtain ⟨p0, p1, p2, z0, z1, z2, hlt9⟩ := HPL.out w25 (below_next (below_next (Below.refl _ X).drew hb24) hb25)))
                  all_goals
                    have hb2 : Below X.heap.size X w25 := below_next (below_next (Below.refl _ X).drew hb24) hb25
                    have e60 := (hb2.block _ (heap_lt HE60.out)).trans HE60.out
                    obtain ⟨W9, hW9⟩ : ∃ W9, W9 = ((w25.setCell ⟨w2.heap.size, 0, none⟩ (.bool (frS (bil (N2 - 1000000000))))).setCell ⟨w2.heap.size, 1, none⟩ (.slice A70 l70.length c70)).setCell ⟨w2.heap.size, 2, none⟩ (.slice A71 l71.length c71) := ⟨_, rfl⟩
                    have HV9 := Lib.hid (show VarQ W9 w2.heap.size (bil (N2 - 1000000000)) by rw [hW9]; exact varq_set e60 (by simp) n70 n71)
                    have hfr : Fr (fun i => i = w2.heap.size) X W9 := by rw [hW9]; exact Fr.trans (fr_below hb2) (fr3 _ _ _) (fun _ _ h => h)
                    have HB9 := Lib.hid (HBX.out.trans (hfr.below (B := w2.heap.size) (by omega) (fun i hi hm => by omega)))
                    have HO9 := Lib.hid (HOX.out.fr hfr (fun i hi hm => by have := (HOX.out.block hi).1; omega))
                    have hs9 := hfr.size
                    clear p0 p1 p2 z0 z1 z2 hlt9 e60 hb2 hb24 hb25 hv24 n70 n71 hfr f0 f1 f2 g0 g1 g2 g3 g4 g5 g6
                    go_upto_region 23 with fail
                    rw [← hW9]
                    clear hW9
                    go_wp2_with (at_builtin; refine wpList_append_z rfl (.tmp 105) (.tmp 107) 28 rfl (w2.heap.size + 1) 3 ii Tryd.underlying28 hii hiz0 hiz1 hiz2 _ (outsS (burst * 1000000000) rate ts k) rfl (HO9.out.alloc _) ⟨W9.heap.size, 0, none⟩ (max t a + m) rfl (cell_one_new W9 (.int .i64 (max t a + m)) 3) ?c1 ?c2 ?_)
                    case c1 => rw [outsS_length]; omega
                    case c2 => simp; omega
                    intro v' w6 hown6 hgr6
                    have HB6 := Lib.hid (show Below w2.heap.size w2 w6 from (HB9.out.alloc (by omega) _).trans ((Fr.of_grown hgr6.gr).below (B := w2.heap.size) (by simp; omega) (fun i hi hm => by have := (HO9.out.block hm).1; omega)))
                    have HV6 := Lib.hid (show VarQ w6 w2.heap.size (bil (N2 - 1000000000)) from (HV9.out.on ((Below.refl _ _).alloc (Nat.le_refl _) _)).grew (HO9.out.alloc _) (by omega) hgr6)
                    have HO6 := Lib.hid (show RowZ w6 (w2.heap.size + 1) 3 v' (outsS (burst * 1000000000) rate ts (k + 1)) by rw [HES.out]; exact hown6)
                    have HOL2 := Lib.hid (show ∀ x ∈ outsS (burst * 1000000000) rate ts (k + 1), x ≤ 1000000000000 from fun x hx => by
                      rw [HES.out] at hx
                      rcases List.mem_append.1 hx with hx | hx
                      · exact HOL.out x hx
                      · simp only [List.mem_singleton] at hx; rw [hx]; exact HTL.out)
                    clear hown6 hgr6
                    go_wp2
                    go_roundw
                    case rel => exact ⟨k + 1, N2 - 1000000000, max t a + m, by go_num, rfl, by omega, HTL.out, HSU, by omega, by omega, by omega, HV6.out, HO6.out, HOL2, HB6.out⟩
                    case measure => simp [intOf]; omega
          · skip
            have t5 : decide (od < 0) = false := by rw [HLO.out]; simpa using hlow
            have ho : ¬ od < 0 := by simpa using t5
            have HSU := Lib.hid (show stS (burst * 1000000000) rate ts (k + 1) = some (N - 1000000000, max t a) by rw [HSS.out, HTN.out (by omega)])
            have HES := Lib.hid (show outsS (burst * 1000000000) rate ts (k + 1) = outsS (burst * 1000000000) rate ts k ++ [max t a] by rw [outsS_snoc, HSU.out]; rfl)
            have HTL := Lib.hid (show max t a ≤ 1000000000000 by omega)
            have HVLX := Lib.hid (HVL.out.on HBR14.out)
            have HOX := Lib.hid (HOW.out.below HBR14.out)
            have HBX := Lib.hid (HBW.out.trans (HBR14.out.mono hsz))
            clear HVL HOW HBW HV5 HK40 HF40 HN41 HE40 HP20 HF20
            have HVL := HVLX
            obtain ⟨A50, c50, l50, A51, c51, l51, e50, n50, n51⟩ := HV14.out
            have HE50 := Lib.hid e50
            have HF50 := Lib.hid (show ∀ Y, Below w14.heap.size w14 Y → FracR Y (.agg #[.bool (frS (bil N)), .slice A50 l50.length c50, .slice A51 l51.length c51]) (bil N) from fun Y hY => ⟨A50, c50, l50, A51, c51, l51, rfl, n50.on hY, n51.on hY⟩)
            have HK50 := Lib.hid (show ∀ Y, Below w14.heap.size w14 Y → (fun Y => Below w14.heap.size w14 Y ∧ Y.cell? ⟨B14, 0, none⟩ = some (.bool (frS (bil N))) ∧ Y.cell? ⟨B14, 1, none⟩ = some (.slice A50 l50.length c50) ∧ Y.cell? ⟨B14, 2, none⟩ = some (.slice A51 l51.length c51)) Y from fun Y hY => by
              have e := (hY.block _ (heap_lt HE50.out)).trans HE50.out
              exact ⟨hY, by rw [cellsAt e]; rfl, by rw [cellsAt e]; rfl, by rw [cellsAt e]; rfl⟩)
            have HN51 := Lib.hid (fun Y (hY : Below w14.heap.size w14 Y) => n51.on hY)
            clear e50 n50 n51
            obtain ⟨A60, c60, l60, A61, c61, l61, e60, _, _⟩ := HVL.out
            have HE60 := Lib.hid e60
            have hl60 := heap_lt e60
            have HPL := Lib.hid (show ∀ Y, Below w14.heap.size w14 Y → Y.cell? ⟨w2.heap.size, 0, none⟩ = some (.bool (frS (bil h))) ∧ Y.cell? ⟨w2.heap.size, 1, none⟩ = some (.slice A60 l60.length c60) ∧ Y.cell? ⟨w2.heap.size, 2, none⟩ = some (.slice A61 l61.length c61) ∧ Y.frozen? ⟨w2.heap.size, 0, none⟩ = false ∧ Y.frozen? ⟨w2.heap.size, 1, none⟩ = false ∧ Y.frozen? ⟨w2.heap.size, 2, none⟩ = false ∧ w2.heap.size < Y.heap.size from fun Y hY => by
              have e := (hY.block _ (heap_lt HE60.out)).trans HE60.out
              exact ⟨by rw [cellsAt e]; rfl, by rw [cellsAt e]; rfl, by rw [cellsAt e]; rfl, frozenAt e 0, frozenAt e 1, frozenAt e 2, heap_lt e⟩)
            have HK22 := Lib.hid (show ∀ Y, Fr (fun i => i = w2.heap.size) w14 Y → Fr (fun i => i = w2.heap.size) w14 Y ∧ Y.cell? ⟨B14, 0, none⟩ = some (.bool (frS (bil N))) ∧ Y.cell? ⟨B14, 1, none⟩ = some (.slice A50 l50.length c50) ∧ Y.cell? ⟨B14, 2, none⟩ = some (.slice A51 l51.length c51) from fun Y hY => by
              have e := (hY.block _ (heap_lt HE50.out) (by omega)).trans HE50.out
              exact ⟨hY, by rw [cellsAt e]; rfl, by rw [cellsAt e]; rfl, by rw [cellsAt e]; rfl⟩)
            have HLE := Lib.hid (fun W u v hu hv => rLess_any 5 u v (bil N) ((1 : Int) : Rat) W (by omega) hu hv (bil_sz (by omega) (by omega)) one_sz)
            rw [bil_less] at HLE
            obtain ⟨_, f0, f1, f2⟩ := HK50.out w14 (Below.refl _ _)
            obtain ⟨g0, g1, g2, g3, g4, g5, g6⟩ := HPL.out w14 (Below.refl _ _)
            clear e60 HK50
            go_upto_region 22 with fail
            go_region_held3 (fun Y => Fr (fun i => i = w2.heap.size) w14 Y ∧ Y.cell? ⟨B14, 0, none⟩ = some (.bool (frS (bil N))) ∧ Y.cell? ⟨B14, 1, none⟩ = some (.slice A50 l50.length c50) ∧ Y.cell? ⟨B14, 2, none⟩ = some (.slice A51 l51.length c51))
              (first
                | exact HK22.out _ (fr_below (Below.refl _ w14).drew)
                | exact HK22.out _ (fr_below (below_next (Below.refl _ w14).drew hb24))
                | exact HK22.out _ (fr_below (below_next (below_next (Below.refl _ w14).drew hb24) hb25))
                | exact HK22.out _ (Fr.trans (fr_below (below_next (below_next (Below.refl _ w14).drew hb24) hb25)) (fr3 _ _ _) (fun _ _ h => h)))
              (first
                | (go_at_call 55; (with_reducible refine (HW1.out _).mono ?_); rintro e w24 ⟨v24, rfl, hv24, hb24⟩)
                | (go_at_call 59; (with_reducible refine (HLE.out _ _ v24 ?_ hv24).mono ?_); (exact HF50.out _ (below_next (Below.refl _ w14).drew hb24)); rintro e w25 ⟨_, rfl, ⟨A70, c70, l70, A71, c71, l71, rfl, n70, n71⟩, hb25⟩; obtain ⟨p0, p1, p2, z0, z1, z2, hlt9⟩ := HPL.out w25 (below_next (below_next (Below.refl _ w14).drew hb24) hb25)))
            all_goals
              have hb2 : Below w14.heap.size w14 w25 := below_next (below_next (Below.refl _ w14).drew hb24) hb25
              have e60 := (hb2.block _ (heap_lt HE60.out)).trans HE60.out
              obtain ⟨W9, hW9⟩ : ∃ W9, W9 = ((w25.setCell ⟨w2.heap.size, 0, none⟩ (.bool (frS (bil (N - 1000000000))))).setCell ⟨w2.heap.size, 1, none⟩ (.slice A70 l70.length c70)).setCell ⟨w2.heap.size, 2, none⟩ (.slice A71 l71.length c71) := ⟨_, rfl⟩
              have HV9 := Lib.hid (show VarQ W9 w2.heap.size (bil (N - 1000000000)) by rw [hW9]; exact varq_set e60 (by simp) n70 n71)
              have hfr : Fr (fun i => i = w2.heap.size) w14 W9 := by rw [hW9]; exact Fr.trans (fr_below hb2) (fr3 _ _ _) (fun _ _ h => h)
              have HB9 := Lib.hid (HBX.out.trans (hfr.below (B := w2.heap.size) (by omega) (fun i hi hm => by omega)))
              have HO9 := Lib.hid (HOX.out.fr hfr (fun i hi hm => by have := (HOX.out.block hi).1; omega))
              have hs9 := hfr.size
              clear p0 p1 p2 z0 z1 z2 hlt9 e60 hb2 hb24 hb25 hv24 n70 n71 hfr f0 f1 f2 g0 g1 g2 g3 g4 g5 g6
              go_upto_region 23 with fail
              rw [← hW9]
              clear hW9
              go_wp2_with (at_builtin; refine wpList_append_z rfl (.tmp 105) (.tmp 107) 28 rfl (w2.heap.size + 1) 3 ii Tryd.underlying28 hii hiz0 hiz1 hiz2 _ (outsS (burst * 1000000000) rate ts k) rfl (HO9.out.alloc _) ⟨W9.heap.size, 0, none⟩ (max t a) rfl (cell_one_new W9 (.int .i64 (max t a)) 3) ?c1 ?c2 ?_)
              case c1 => rw [outsS_length]; omega
              case c2 => simp; omega
              intro v' w6 hown6 hgr6
              have HB6 := Lib.hid (show Below w2.heap.size w2 w6 from (HB9.out.alloc (by omega) _).trans ((Fr.of_grown hgr6.gr).below (B := w2.heap.size) (by simp; omega) (fun i hi hm => by have := (HO9.out.block hm).1; omega)))
              have HV6 := Lib.hid (show VarQ w6 w2.heap.size (bil (N - 1000000000)) from (HV9.out.on ((Below.refl _ _).alloc (Nat.le_refl _) _)).grew (HO9.out.alloc _) (by omega) hgr6)
              have HO6 := Lib.hid (show RowZ w6 (w2.heap.size + 1) 3 v' (outsS (burst * 1000000000) rate ts (k + 1)) by rw [HES.out]; exact hown6)
              have HOL2 := Lib.hid (show ∀ x ∈ outsS (burst * 1000000000) rate ts (k + 1), x ≤ 1000000000000 from fun x hx => by
                rw [HES.out] at hx
                rcases List.mem_append.1 hx with hx | hx
                · exact HOL.out x hx
                · simp only [List.mem_singleton] at hx; rw [hx]; exact HTL.out)
              clear hown6 hgr6
              go_wp2
              go_roundw
              case rel => exact ⟨k + 1, N - 1000000000, max t a, by go_num, rfl, by omega, HTL.out, HSU, by omega, by omega, by omega, HV6.out, HO6.out, HOL2, HB6.out⟩
              case measure => simp [intOf]; omega
        · obtain rfl : k = ts.length := by omega
          obtain ⟨A', c', rfl, _, _, _⟩ := ownsRow_shape hox.own
          have HRD := Lib.hid ((Rd.of_own hox.own).more (Nat.zero_le _) (Nat.le_refl _))
          have HEC := Lib.hid (admC_ok HCT.out HOK.out _ HST.out HOL.out)
          have HBE := Lib.hid (below_next HB2.out hbw)
          have HLN := Lib.hid (outsS_len (burst * 1000000000) rate ts ts.length)
          clear hvl hox hbw hLB
          go_wp2
          go_ret2
          refine ⟨A', c', ?_, ?_, HBE.out⟩
          · rw [HEC.out.1, HEC.out.2, HLN.out]; rfl
          · have := HRD.out
            rw [HEC.out.2]
            exact this
    · have HE := Lib.hid (show admC ts rate burst = 9 by unfold admC; rw [if_neg (by omega), if_pos ha])
      have HEL := Lib.hid (show admL ts rate burst = [] by rw [HAL.out, HE.out, if_neg (by omega)])
      have hbad : decide (rate < 0) = true ∨ (decide (rate < 0) = false ∧ decide (1000000000 < rate) = true) ∨ (decide (rate < 0) = false ∧ decide (1000000000 < rate) = false ∧ decide (burst < 1) = true) ∨ (decide (rate < 0) = false ∧ decide (1000000000 < rate) = false ∧ decide (burst < 1) = false ∧ decide (1000000 < burst) = true) := by
        unfold admOk at ha; simp; omega
      clear ha hc
      rcases hbad with t1 | ⟨t1, t2⟩ | ⟨t1, t2, t3⟩ | ⟨t1, t2, t3, t4⟩
      all_goals go_enter Tryd.func21, Tryd.ntmps21
      all_goals go_wp2_with fail
      all_goals refine HCK.out.mono ?_
      all_goals rintro e w1 ⟨rfl, hb1⟩
      all_goals go_wp2
      all_goals go_ret2
      all_goals exact ⟨none, 0, by rw [HE.out, HEL.out]; rfl, by rw [HEL.out]; exact Rd.nil, hb1⟩
  · obtain ⟨cc, hcc⟩ : ∃ cc, cc = codeT ts := ⟨_, rfl⟩
    have HE := Lib.hid (show admC ts rate burst = cc from (admC.eq_1 ts rate burst).trans ((if_pos hc).trans hcc.symm))
    rw [← hcc] at HCK hc
    have t1 : (cc != 0) = true := by simpa using hc
    have HEL := Lib.hid (show admL ts rate burst = [] by rw [HAL.out, HE.out, if_neg hc])
    clear hcc
    go_enter Tryd.func21, Tryd.ntmps21
    go_wp2_with fail
    refine HCK.out.mono ?_
    rintro e w1 ⟨rfl, hb1⟩
    go_wp2
    go_ret2
    exact ⟨none, 0, by rw [HE.out, HEL.out]; rfl, by rw [HEL.out]; exact Rd.nil, hb1⟩
end Go.Proofs.YtkoodmoilfgafaaDoor
